/- Index: what is asked of a list that rises by names (the document's); a search in one (the library's). -/
import Derived.Test.YtbpknjldphckgaaDoorNb
import Derived.Test.YtbpknjldphckgaaDoorVci
namespace Go.Proofs.YtbpknjldphckgaaDoor
open Go Go.SX Go.Proofs Go.Lib
set_option maxRecDepth 100000
set_option linter.unusedVariables false
set_option linter.unusedSimpArgs false
theorem MbAt.kp {S : Nat → Prop} {w w' : World} {x : Addr} {b : Mb} (h : MbAt w x b) (k : Kp S w w') (hs : ¬ S x.block) : MbAt w' x b := by
  have go : ∀ i v, w.cell? (x.add i) = some v → w'.cell? (x.add i) = some v := fun i v hc => k.cell hc (by rw [add_block]; exact hs)
  exact ⟨go _ _ h.c0, go _ _ h.c1, go _ _ h.c2, go _ _ h.c3, go _ _ h.c4, go _ _ h.c5, go _ _ h.c6⟩
theorem MemsAt.kp {S : Nat → Prop} {w w' : World} {q : Option Addr} {l : List Mb} (h : MemsAt w q l) (k : Kp S w w') (hs : ∀ x, q = some x → 0 < l.length → ¬ S x.block) : MemsAt w' q l := fun i hi => by
  obtain ⟨x, e, m⟩ := h i hi
  exact ⟨x, e, m.kp k (by rw [add_block]; exact hs x e (by omega))⟩
theorem MbAt.far {w w' : World} {x : Addr} {b : Mb} {E : Nat} (h : MbAt w x b) (k : Kp (fun i => E ≤ i) w w') (hE : w.heap.size ≤ E) : MbAt w' x b :=
  ⟨cell_far h.c0 k hE, cell_far h.c1 k hE, cell_far h.c2 k hE, cell_far h.c3 k hE, cell_far h.c4 k hE, cell_far h.c5 k hE, cell_far h.c6 k hE⟩
theorem MemsAt.far {w w' : World} {q : Option Addr} {l : List Mb} {E : Nat} (h : MemsAt w q l) (k : Kp (fun i => E ≤ i) w w') (hE : w.heap.size ≤ E) : MemsAt w' q l := fun i hi => by
  obtain ⟨x, e, m⟩ := h i hi
  exact ⟨x, e, m.far k hE⟩
theorem kso {O : Nat → Prop} {w w' : World} {g : Nat} (k : Kp O w w') (hg : ¬ O g) (hl : g < w.heap.size) : Keeps w w' [g] := k.keeps fun b hb => by
  rw [List.mem_singleton] at hb
  subst hb
  exact ⟨hl, hg⟩
theorem memsC_len (l : List Mb) : (memsC l).length = l.length * 7 := by
  induction l with
  | nil => rfl
  | cons b r ih => simp only [memsC, List.length_append, ih, List.length_cons, mbC]; simp; omega
theorem memsC_one (l : List Mb) : ∀ u ∈ memsC l, u.oneCell' = true := by
  induction l with
  | nil => intro u hu; cases hu
  | cons b r ih =>
    intro u hu
    rw [memsC] at hu
    rcases List.mem_append.1 hu with hu | hu
    · simp only [mbC, List.mem_cons, List.not_mem_nil, or_false] at hu
      rcases hu with rfl | rfl | rfl | rfl | rfl | rfl | rfl <;> simp [Value.oneCell']
    · exact ih u hu
theorem memsC_take (l : List Mb) (i : Nat) : (memsC l).take (i * 7) = memsC (l.take i) := by
  induction l generalizing i with
  | nil => simp [memsC]
  | cons b r ih =>
    cases i with
    | zero => simp [memsC]
    | succ i =>
      have hl : (mbC b).length = 7 := rfl
      rw [List.take_succ_cons, memsC, memsC, List.take_append, hl, ← ih i, List.take_of_length_le (by rw [hl]; omega), show (i + 1) * 7 - 7 = i * 7 by omega]
theorem memsC_drop (l : List Mb) (i : Nat) : (memsC l).drop (i * 7) = memsC (l.drop i) := by
  induction l generalizing i with
  | nil => simp [memsC]
  | cons b r ih =>
    cases i with
    | zero => simp [memsC]
    | succ i =>
      have hl : (mbC b).length = 7 := rfl
      rw [List.drop_succ_cons, memsC, List.drop_append, hl, ← ih i, List.drop_eq_nil_of_le (by rw [hl]; omega), show (i + 1) * 7 - 7 = i * 7 by omega, List.nil_append]
/-- A member, laid just before, behind a row. -/
theorem push_mem {w : World} {own : Nat → Prop} {v : Value} {l : List Mb} {n : Nat} (b : Mb) {K : Value → World → Prop} (hrow : OwnRow w own 50 7 v n (memsC l)) (hn : n = l.length) (hb : l.length + 1 ≤ 137438953472)
    (hK : ∀ q' c' w', OwnRow w' (fun i => own i ∨ fresh w i) 50 7 (.slice q' (l.length + 1) c') (l.length + 1) (memsC (l ++ [b])) → Kp own w w' → Kp own (w.alloc (.cells #[.string (ba b.s), .int .i64 b.a, .int .i64 b.f, .int .i64 b.r, .int .i64 b.z, .int .u32 b.u, .int .i64 b.m] 50)) w' → K (.slice q' (l.length + 1) c') w') :
    Runs Tryd.prog (Builtin.append_ #[42, 42] 42 #[v, .slice (some ⟨w.heap.size, 0, none⟩) 1 1]) (w.alloc (.cells #[.string (ba b.s), .int .i64 b.a, .int .i64 b.f, .int .i64 b.r, .int .i64 b.z, .int .u32 b.u, .int .i64 b.m] 50)) K := by
  subst hn
  refine append_new (own := own) (xs := memsC l) #[.string (ba b.s), .int .i64 b.a, .int .i64 b.f, .int .i64 b.r, .int .i64 b.z, .int .u32 b.u, .int .i64 b.m] und42 elem50 (by omega) hrow rfl (fun u hu => ?_) hb fun q' c' w' r k1 k2 => hK q' c' w' ?_ k1 k2
  · exact memsC_one [b] u (by simpa [memsC, mbC] using hu)
  · rw [memsC_app]
    simpa [memsC, mbC] using r
abbrev kM : Mb → List UInt8 := Mb.s
theorem c125 {w : World} {q : Option Addr} {c : Nat} {l : List Mb} (h : MemsAt w q l) (hl : l.length ≤ 1000000) (s : ByteArray) : Rets Tryd.prog 125 #[.slice q l.length c, .string s] w fun v w' => v = .int .i64 (idxO (findK kM l (bytesL s))) ∧ w' = w := by
  refine ent [_, _] Tryd.func125 ((vcTryd125 _ _ _ _ w _).mpr ?_)
  unfold VCTryd125
  refine ⟨fun i w' => ∃ j : Nat, i = j ∧ j ≤ l.length ∧ w' = w ∧ ∀ k (hk : k < l.length), k < j → (l[k]).s ≠ bytesL s, fun i _ => (l.length - i).toNat, ⟨0, rfl, by omega, rfl, fun k hk h => by omega⟩, ?_⟩
  rintro i w' ⟨j, rfl, hj, rfl, ha⟩
  refine bif_dec (fun h1 => ⟨⟨by omega, by omega⟩, mem_at h (by omega) fun x _ m => ⟨_, m.c0, ?_⟩⟩) (fun h1 => ⟨_, rfl, ?_, rfl⟩)
  · have hjl : j < l.length := by omega
    rw [beq_ba]
    refine bif_b (fun hh => ⟨_, rfl, ?_, rfl⟩) (fun hh => wr64 (by omega) ⟨⟨j + 1, by omega, by omega, rfl, fun k hk hkj => ?_⟩, by first | omega | (dsimp only; omega)⟩)
    · rw [findK_at (k := kM) hjl (by simpa using hh) ha]; rfl
    · by_cases e : k = j
      · subst e; simpa using hh
      · exact ha k hk (by omega)
  · rw [findK_not (k := kM) fun k hk => ha k hk (by omega)]; rfl
theorem c126 {w : World} {q : Option Addr} {c : Nat} {l : List Mb} (h : MemsAt w q l) (hl : l.length ≤ 1000000) (s : ByteArray) : Rets Tryd.prog 126 #[.slice q l.length c, .string s] w fun v w' => v = .bool (has kM l (bytesL s) || decide (l.length < 200)) ∧ w' = w := by
  refine ent [_, _] Tryd.func126 ((vcTryd126 _ _ _ _ w _).mpr ?_)
  unfold VCTryd126
  refine (c125 h hl s).mono ?_
  rintro v wx ⟨rfl, e⟩
  obtain rfl := e.symm
  refine ⟨_, rfl, (Kp.refl none_ _).keeps0, ?_⟩
  rw [idxO_nonneg, findK_has]
  cases hh : has kM l (bytesL s) with
  | true => exact ⟨_, rfl, rfl, rfl⟩
  | false =>
    refine ⟨_, rfl, ?_, rfl⟩
    rw [Bool.false_or]
    congr 1
    exact decide_eq_decide.2 (by omega)
theorem c128 {w : World} {q : Option Addr} {c : Nat} {l : List Mb} (h : MemsAt w q l) (hl : l.length ≤ 1000000) (s : ByteArray) : Rets Tryd.prog 128 #[.slice q l.length c, .string s] w fun v w' =>
    ∃ q' c', v = .slice q' (withoutK kM l (bytesL s)).length c' ∧ OwnRow w' (fun i => w.heap.size ≤ i) 50 7 (.slice q' (withoutK kM l (bytesL s)).length c') (withoutK kM l (bytesL s)).length (memsC (withoutK kM l (bytesL s))) ∧ Kp none_ w w' := by
  refine ent [_, _] Tryd.func128 ((vcTryd128 _ _ _ _ w _).mpr ?_)
  unfold VCTryd128
  refine ⟨fun i q n c w' => ∃ j : Nat, i = j ∧ j ≤ l.length ∧ n = (withoutK kM (l.take j) (bytesL s)).length ∧ OwnRow w' (fun i => w.heap.size ≤ i) 50 7 (.slice q n c) n (memsC (withoutK kM (l.take j) (bytesL s))) ∧ Kp (fun i => w.heap.size ≤ i) w w', fun i _ _ _ _ => (l.length - i).toNat, ⟨0, rfl, by omega, by simp [withoutK], by simpa [withoutK, memsC] using OwnRow.nil _ _ _ _, Kp.refl _ _⟩, ?_⟩
  rintro i q3 n4 c5 w6 ⟨j, rfl, hj, rfl, r6, k6⟩
  have hle : (withoutK kM (l.take j) (bytesL s)).length ≤ (l.take j).length := List.length_filter_le _ _
  have hlt : (l.take j).length ≤ j := by rw [List.length_take]; omega
  refine bif_dec (fun h1 => ⟨⟨by omega, by omega⟩, mem_at (h.far k6 (Nat.le_refl _)) (by omega) fun x _ m => ⟨_, m.c0, ?_⟩⟩) (fun h1 => ⟨_, rfl, q3, c5, ?_, ?_, k6.narrow (Nat.le_refl _)⟩)
  · have hjl : j < l.length := by omega
    have hst := withoutK_step (k := kM) (s := bytesL s) hjl
    rw [beq_ba]
    refine bif_not (fun hh => ?_) (fun hh => wr64 (by omega) ⟨⟨j + 1, by omega, by omega, ?_, ?_, k6⟩, by first | omega | (dsimp only; omega)⟩)
    · rw [if_neg (by simpa using hh)] at hst
      refine ⟨⟨by omega, by omega⟩, mem_at (h.far k6 (Nat.le_refl _)) hjl fun y _ my => ⟨_, _, _, _, _, _, _, ⟨my.c0, my.c1, my.c2, my.c3, my.c4, my.c5, my.c6, trivial⟩, ?_⟩⟩
      refine push_mem l[j] r6 rfl (by omega) fun q' c' w' r' k1 k2 => ⟨_, _, _, rfl, k2.keeps0, wr64 (by omega) ⟨⟨j + 1, by omega, by omega, by rw [hst]; simp, ?_, k6.trans k1⟩, by first | omega | (dsimp only; omega)⟩⟩
      rw [hst]
      have hz := k6.size
      exact r'.mono fun i hi _ => hi.elim id fun hf => Nat.le_trans hz hf
    · rw [if_pos (by simpa using hh)] at hst
      rw [hst]
    · rw [if_pos (by simpa using hh)] at hst
      rw [hst]; exact r6
  · rw [List.take_of_length_le (by omega)]
  · rw [List.take_of_length_le (by omega)] at r6
    exact r6
theorem c127 {w : World} {q : Option Addr} {c : Nat} {l : List Mb} (h : MemsAt w q l) (hl : l.length ≤ 1000000) (b : Mb) : Rets Tryd.prog 127 #[.slice q l.length c, mbV b] w fun v w' =>
    ∃ q' c', v = .slice q' (withK kM l b.s b).length c' ∧ OwnRow w' (fun i => w.heap.size ≤ i) 50 7 (.slice q' (withK kM l b.s b).length c') (withK kM l b.s b).length (memsC (withK kM l b.s b)) ∧ Kp none_ w w' := by
  refine ent [_, _] Tryd.func127 ((vcTryd127 _ _ _ _ _ _ _ _ _ _ w _).mpr ?_)
  unfold VCTryd127
  have k0 : Kp (fun i => w.heap.size ≤ i) w (w.alloc (.cells #[.string (ba b.s), .int .i64 b.a, .int .i64 b.f, .int .i64 b.r, .int .i64 b.z, .int .u32 b.u, .int .i64 b.m] 50)) := (Kp.refl _ w).alloc1 _
  refine ⟨fun i q n c t w' => ∃ (j : Nat) (o : List Mb), i = j ∧ j ≤ l.length ∧ putGo kM b.s b (l.take j) = (o, t) ∧ n = o.length ∧ o.length ≤ 2 * j ∧ OwnRow w' (fun i => w.heap.size < i) 50 7 (.slice q n c) o.length (memsC o) ∧ Kp (fun i => w.heap.size ≤ i) w w' ∧ w.heap.size < w'.heap.size, fun i _ _ _ _ _ => (l.length - i).toNat,
    ⟨0, [], rfl, by omega, by simp [putGo], rfl, by simp, OwnRow.nil _ _ _ _, k0, by rw [alloc_size]; omega⟩, ?_⟩
  rintro i q3 n4 c5 t6 w7 ⟨j, o, rfl, hj, hgo, rfl, ho, r7, k7, z7⟩ _
  have nb : ¬ (w.heap.size < w.heap.size) := Nat.lt_irrefl _
  have wide : ∀ {w8 w9 : World}, Kp (fun i => w.heap.size < i) w8 w9 → Kp (fun i => w.heap.size ≤ i) w8 w9 := fun k => k.mono fun i _ h => Nat.le_of_lt h
  refine bif_dec (fun h1 => ?_) (fun h1 => ?_)
  · have hjl : j < l.length := by omega
    have hst := putGo_step (k := kM) (s := b.s) (m := b) hjl
    rw [hgo] at hst
    -- the element that is there is put, or not
    have tail : ∀ (o' : List Mb) (t' : Bool) (q' : Option Addr) (c' : Nat) (w' : World), o'.length ≤ 2 * j + 1 → OwnRow w' (fun i => w.heap.size < i) 50 7 (.slice q' o'.length c') o'.length (memsC o') → Kp (fun i => w.heap.size ≤ i) w w' → w.heap.size < w'.heap.size →
        putGo kM b.s b (l.take (j + 1)) = (if b.s = l[j].s then o' else o' ++ [l[j]], t') →
        ∀ {K : Option Addr → Nat → Nat → Bool → World → Prop}, (∀ (q : Option Addr) (n c : Nat) (w2 : World), (∃ (j2 : Nat) (o : List Mb), ((j + 1 : Nat) : Int) = j2 ∧ j2 ≤ l.length ∧ putGo kM b.s b (l.take j2) = (o, t') ∧ n = o.length ∧ o.length ≤ 2 * j2 ∧ OwnRow w2 (fun i => w.heap.size < i) 50 7 (.slice q n c) o.length (memsC o) ∧ Kp (fun i => w.heap.size ≤ i) w w2 ∧ w.heap.size < w2.heap.size) → K q n c t' w2) →
        (b.s = l[j].s → K q' o'.length c' t' w') ∧ (b.s ≠ l[j].s → ∀ {K2 : Value → World → Prop}, (∀ q2 c2 w2, Keeps (w'.alloc (.cells #[.string (ba l[j].s), .int .i64 l[j].a, .int .i64 l[j].f, .int .i64 l[j].r, .int .i64 l[j].z, .int .u32 l[j].u, .int .i64 l[j].m] 50)) w2 [w.heap.size] → K q2 (o'.length + 1) c2 t' w2 → K2 (.slice q2 (o'.length + 1) c2) w2) →
          Runs Tryd.prog (Builtin.append_ #[42, 42] 42 #[.slice q' o'.length c', .slice (some ⟨w'.heap.size, 0, none⟩) 1 1]) (w'.alloc (.cells #[.string (ba l[j].s), .int .i64 l[j].a, .int .i64 l[j].f, .int .i64 l[j].r, .int .i64 l[j].z, .int .u32 l[j].u, .int .i64 l[j].m] 50)) K2) := by
      intro o' t' q' c' w' hlen r' k' z' hgo' K hK
      refine ⟨fun e => hK _ _ _ _ ⟨j + 1, o', rfl, by omega, by rw [hgo', if_pos e], rfl, by omega, r', k', z'⟩, fun e K2 hK2 => push_mem l[j] r' rfl (by omega) fun q2 c2 w2 r2 k2 k3 => hK2 q2 c2 w2 (kso k3 nb (by rw [alloc_size]; omega)) (hK _ _ _ _ ⟨j + 1, o' ++ [l[j]], rfl, by omega, by rw [hgo', if_neg e], by simp, by simp; omega, ?_, k'.trans (wide k2), Nat.lt_of_lt_of_le z' k2.size⟩)⟩
      have := r2.mono (own' := fun i => w.heap.size < i) fun i hi _ => hi.elim id fun hf => Nat.lt_of_lt_of_le z' hf
      simpa using this
    cases t6 with
    | false =>
      refine ⟨⟨by omega, by omega⟩, mem_at (h.far k7.drew (Nat.le_refl _)) hjl fun x _ mx => ⟨_, mx.c0, ?_⟩⟩
      rw [toList_ba, toList_ba]
      refine bif_b (fun hle => ?_) (fun hgt => ?_)
      · have e1 : putGo kM b.s b (l.take (j + 1)) = (if b.s = l[j].s then o ++ [b] else (o ++ [b]) ++ [l[j]], true) := by
          rw [hst]; unfold putStep; simp only [hle, and_self, if_true, Bool.false_or]
        refine push_mem b (r7.kp (Kp.refl none_ w7).drew fun _ _ _ _ _ => id) rfl (by omega) fun q8 c8 w8 r8 k8 k8' => ⟨_, _, _, rfl, kso k8' nb (by rw [alloc_size, drew_size]; omega), ⟨by omega, by omega⟩, ?_⟩
        have K8 : Kp (fun i => w.heap.size ≤ i) w w8.drew := (k7.drew.trans (wide k8)).drew
        have z8 : w.heap.size < w8.drew.heap.size := Nat.lt_of_lt_of_le z7 k8.size
        have R8 : OwnRow w8.drew (fun i => w.heap.size < i) 50 7 (.slice q8 (o ++ [b]).length c8) (o ++ [b]).length (memsC (o ++ [b])) := by
          have := (r8.mono (own' := fun i => w.heap.size < i) fun i hi _ => hi.elim id fun hf => Nat.lt_of_lt_of_le z7 hf).kp (Kp.refl none_ w8).drew fun _ _ _ _ _ => id
          simpa using this
        have el : (o ++ [b]).length = o.length + 1 := by simp
        refine mem_at (h.far K8 (Nat.le_refl _)) hjl fun y _ my => ⟨_, my.c0, ?_⟩
        rw [toList_ba]
        refine bif_not (fun hne => ⟨⟨by omega, by omega⟩, mem_at (h.far K8 (Nat.le_refl _)) hjl fun z _ mz => ⟨_, _, _, _, _, _, _, ⟨mz.c0, mz.c1, mz.c2, mz.c3, mz.c4, mz.c5, mz.c6, trivial⟩, ?_⟩⟩) (fun heq => wr64 (by omega) ⟨rfl, ?_, by first | omega | (dsimp only; omega)⟩)
        · rw [← el]
          refine (tail (o ++ [b]) true q8 c8 w8.drew (by simp; omega) R8 K8 z8 e1 (K := fun q n c t w2 => ∃ (j2 : Nat) (o : List Mb), ((j + 1 : Nat) : Int) = j2 ∧ j2 ≤ l.length ∧ putGo kM b.s b (l.take j2) = (o, t) ∧ n = o.length ∧ o.length ≤ 2 * j2 ∧ OwnRow w2 (fun i => w.heap.size < i) 50 7 (.slice q n c) o.length (memsC o) ∧ Kp (fun i => w.heap.size ≤ i) w w2 ∧ w.heap.size < w2.heap.size) fun _ _ _ _ hh => hh).2 (by simpa using hne) fun q2 c2 w2 kp hk => ⟨_, _, _, rfl, kp, wr64 (by omega) ⟨rfl, hk, by first | omega | (dsimp only; omega)⟩⟩
        · rw [← el]
          exact (tail (o ++ [b]) true q8 c8 w8.drew (by simp; omega) R8 K8 z8 e1 (K := fun q n c t w2 => ∃ (j2 : Nat) (o : List Mb), ((j + 1 : Nat) : Int) = j2 ∧ j2 ≤ l.length ∧ putGo kM b.s b (l.take j2) = (o, t) ∧ n = o.length ∧ o.length ≤ 2 * j2 ∧ OwnRow w2 (fun i => w.heap.size < i) 50 7 (.slice q n c) o.length (memsC o) ∧ Kp (fun i => w.heap.size ≤ i) w w2 ∧ w.heap.size < w2.heap.size) fun _ _ _ _ hh => hh).1 (by simpa using heq)
      · have hne0 : b.s ≠ l[j].s := fun e => by
          rw [e] at hgt; simp at hgt
        have e1 : putGo kM b.s b (l.take (j + 1)) = (if b.s = l[j].s then o else o ++ [l[j]], false) := by
          rw [hst]; unfold putStep; simp only [hgt, Bool.false_or]; simp
        have K8 : Kp (fun i => w.heap.size ≤ i) w w7.drew.drew := k7.drew.drew
        have R8 : OwnRow w7.drew.drew (fun i => w.heap.size < i) 50 7 (.slice q3 o.length c5) o.length (memsC o) := r7.kp (Kp.refl none_ w7).drew.drew fun _ _ _ _ _ => id
        refine ⟨⟨by omega, by omega⟩, mem_at (h.far K8 (Nat.le_refl _)) hjl fun y _ my => ⟨_, my.c0, ?_⟩⟩
        rw [toList_ba]
        refine bif_not (fun hne => ⟨⟨by omega, by omega⟩, mem_at (h.far K8 (Nat.le_refl _)) hjl fun z _ mz => ⟨_, _, _, _, _, _, _, ⟨mz.c0, mz.c1, mz.c2, mz.c3, mz.c4, mz.c5, mz.c6, trivial⟩, ?_⟩⟩) (fun heq => absurd (by simpa using heq) hne0)
        refine (tail o false q3 c5 w7.drew.drew (by omega) R8 K8 z7 e1 (K := fun q n c t w2 => ∃ (j2 : Nat) (o : List Mb), ((j + 1 : Nat) : Int) = j2 ∧ j2 ≤ l.length ∧ putGo kM b.s b (l.take j2) = (o, t) ∧ n = o.length ∧ o.length ≤ 2 * j2 ∧ OwnRow w2 (fun i => w.heap.size < i) 50 7 (.slice q n c) o.length (memsC o) ∧ Kp (fun i => w.heap.size ≤ i) w w2 ∧ w.heap.size < w2.heap.size) fun _ _ _ _ hh => hh).2 hne0 fun q2 c2 w2 kp hk => ⟨_, _, _, rfl, kp, wr64 (by omega) ⟨rfl, hk, by first | omega | (dsimp only; omega)⟩⟩
    | true =>
      have e1 : putGo kM b.s b (l.take (j + 1)) = (if b.s = l[j].s then o else o ++ [l[j]], true) := by
        rw [hst]; unfold putStep; simp
      have K8 : Kp (fun i => w.heap.size ≤ i) w w7.drew.drew := k7.drew.drew
      have R8 : OwnRow w7.drew.drew (fun i => w.heap.size < i) 50 7 (.slice q3 o.length c5) o.length (memsC o) := r7.kp (Kp.refl none_ w7).drew.drew fun _ _ _ _ _ => id
      refine ⟨⟨by omega, by omega⟩, mem_at (h.far K8 (Nat.le_refl _)) hjl fun y _ my => ⟨_, my.c0, ?_⟩⟩
      rw [toList_ba, toList_ba]
      refine bif_not (fun hne => ⟨⟨by omega, by omega⟩, mem_at (h.far K8 (Nat.le_refl _)) hjl fun z _ mz => ⟨_, _, _, _, _, _, _, ⟨mz.c0, mz.c1, mz.c2, mz.c3, mz.c4, mz.c5, mz.c6, trivial⟩, ?_⟩⟩) (fun heq => wr64 (by omega) ⟨rfl, ?_, by first | omega | (dsimp only; omega)⟩)
      · refine (tail o true q3 c5 w7.drew.drew (by omega) R8 K8 z7 e1 (K := fun q n c t w2 => ∃ (j2 : Nat) (o : List Mb), ((j + 1 : Nat) : Int) = j2 ∧ j2 ≤ l.length ∧ putGo kM b.s b (l.take j2) = (o, t) ∧ n = o.length ∧ o.length ≤ 2 * j2 ∧ OwnRow w2 (fun i => w.heap.size < i) 50 7 (.slice q n c) o.length (memsC o) ∧ Kp (fun i => w.heap.size ≤ i) w w2 ∧ w.heap.size < w2.heap.size) fun _ _ _ _ hh => hh).2 (by simpa using hne) fun q2 c2 w2 kp hk => ⟨_, _, _, rfl, kp, wr64 (by omega) ⟨rfl, hk, by first | omega | (dsimp only; omega)⟩⟩
      · exact (tail o true q3 c5 w7.drew.drew (by omega) R8 K8 z7 e1 (K := fun q n c t w2 => ∃ (j2 : Nat) (o : List Mb), ((j + 1 : Nat) : Int) = j2 ∧ j2 ≤ l.length ∧ putGo kM b.s b (l.take j2) = (o, t) ∧ n = o.length ∧ o.length ≤ 2 * j2 ∧ OwnRow w2 (fun i => w.heap.size < i) 50 7 (.slice q n c) o.length (memsC o) ∧ Kp (fun i => w.heap.size ≤ i) w w2 ∧ w.heap.size < w2.heap.size) fun _ _ _ _ hh => hh).1 (by simpa using heq)
  · rw [List.take_of_length_le (by omega)] at hgo
    have hw : withK kM l b.s b = if t6 = true then o else o ++ [b] := by
      unfold withK; rw [hgo]
    cases t6 with
    | false =>
      rw [if_neg (by decide)] at hw
      refine push_mem b r7 rfl (by omega) fun q8 c8 w8 r8 k8 k8' => ⟨_, _, _, rfl, kso k8' nb (by rw [alloc_size]; omega), fun _ => ⟨_, rfl, q8, c8, ?_, ?_, (k7.trans (wide k8)).narrow (Nat.le_refl _)⟩⟩
      · rw [hw]; simp
      · rw [hw]
        have := r8.mono (own' := fun i => w.heap.size ≤ i) fun i hi _ => hi.elim (fun h => Nat.le_of_lt h) fun hf => Nat.le_of_lt (Nat.lt_of_lt_of_le z7 hf)
        simpa using this
    | true =>
      rw [if_pos rfl] at hw
      refine fun _ => ⟨_, rfl, q3, c5, by rw [hw], ?_, k7.narrow (Nat.le_refl _)⟩
      rw [hw]
      exact r7.mono fun i hi _ => Nat.le_of_lt hi
end Go.Proofs.YtbpknjldphckgaaDoor
