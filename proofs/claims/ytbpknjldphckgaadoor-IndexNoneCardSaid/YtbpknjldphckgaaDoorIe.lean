/- Index: the members of a folder; an iterator over them. -/
import Derived.Test.YtbpknjldphckgaaDoorId
import Derived.Test.YtbpknjldphckgaaDoorVco
namespace Go.Proofs.YtbpknjldphckgaaDoor
open Go Go.SX Go.Proofs Go.Lib
set_option maxRecDepth 100000
set_option linter.unusedVariables false
set_option linter.unusedSimpArgs false
theorem c211 (s p : ByteArray) (w : World) : Rets Tryd.prog 211 #[.string s, .string p] w fun v w' => v = .bool ((bytesL p).isPrefixOf (bytesL s)) ∧ w' = w := by
  refine ent [_, _] Tryd.func211 ((vcTryd211 _ _ w _).mpr ?_)
  unfold VCTryd211
  have hs := bytesL_size s
  have hp := bytesL_size p
  refine bif_dec (fun h => ⟨⟨by omega, by omega⟩, _, rfl, ?_, rfl⟩) (fun h => ⟨_, rfl, ?_, rfl⟩)
  · rw [beq_str, bytesL_extract, Int.toNat_natCast]
    congr 1
    rw [Bool.eq_iff_iff]
    simp only [beq_iff_eq, List.drop_zero, Nat.sub_zero, List.isPrefixOf_iff_prefix]
    rw [List.prefix_iff_eq_take, hp]
    exact eq_comm
  · congr 1
    symm
    rw [← Bool.not_eq_true, List.isPrefixOf_iff_prefix]
    intro hh
    have := hh.length_le
    omega
theorem c200 (s p : ByteArray) (w : World) : Rets Tryd.prog 200 #[.string s, .string p] w fun v w' => ∃ r, v = .tuple #[.string r, .bool ((bytesL p).isPrefixOf (bytesL s))] ∧ w' = w := by
  refine ent [_, _] Tryd.func200 ((vcTryd200 _ _ w _).mpr ?_)
  unfold VCTryd200
  refine (c211 s p w).mono ?_
  rintro v wx ⟨rfl, e⟩
  obtain rfl := e.symm
  refine ⟨_, rfl, (Kp.refl none_ _).keeps0, bif_not (fun h => ⟨_, rfl, _, by rw [h], rfl⟩) (fun h => ?_)⟩
  have hs := bytesL_size s
  have hp := bytesL_size p
  have hl := (List.isPrefixOf_iff_prefix.1 h).length_le
  exact ⟨⟨by omega, by omega⟩, _, rfl, _, by rw [h], rfl⟩
theorem c188 (s p : ByteArray) (w : World) : Rets Tryd.prog 188 #[.string s, .string p] w fun v w' => ∃ r, v = .tuple #[.string r, .bool ((bytesL p).isPrefixOf (bytesL s))] ∧ w' = w := by
  refine ent [_, _] Tryd.func188 ((vcTryd188 _ _ w _).mpr ?_)
  unfold VCTryd188
  refine (c200 s p w).mono ?_
  rintro v wx ⟨r, rfl, e⟩
  obtain rfl := e.symm
  exact ⟨_, _, rfl, (Kp.refl none_ _).keeps0, _, rfl, _, rfl, rfl⟩
theorem c170 {w : World} (hml : ML w) (f s : ByteArray) (hf : f.size ≤ 1000000) : Rets Tryd.prog 170 #[.string f, .string s] w fun v w' => ∃ r, v = .tuple #[.string r, .bool (inF (bytesL f) (bytesL s))] ∧ Kp none_ w w' := by
  refine ent [_, _] Tryd.func170 ((vcTryd170 _ _ w _).mpr ?_)
  unfold VCTryd170
  refine (c104 hml s).mono ?_
  rintro v w1 ⟨rfl, k1⟩
  rw [beq_str]
  have e0 : bytesL ({ data := #[] } : ByteArray) = [] := rfl
  rw [e0]
  refine ⟨_, rfl, k1.keeps0, bif_not (fun h => ⟨_, rfl, _, by unfold inF; rw [h]; rfl, k1⟩) (fun h => bif_b (fun h2 => ⟨_, rfl, _, by unfold inF; rw [h, h2]; rfl, k1⟩) (fun h2 => (c104 (hml.kp0 k1) f).mono ?_))⟩
  rintro v w2 ⟨rfl, k2⟩
  refine ⟨_, rfl, k2.keeps0, bif_not (fun h3 => ⟨_, rfl, _, by unfold inF; rw [h, h2, h3]; rfl, k1.trans k2⟩) (fun h3 => ⟨by omega, (c188 _ _ w2).mono ?_⟩)⟩
  rintro v w3 ⟨r, rfl, rfl⟩
  have e1 : bytesL (f ++ { data := #[(47 : UInt8)] }) = bytesL f ++ [47] := by
    show (f ++ { data := #[(47 : UInt8)] } : ByteArray).data.toList = _
    rw [ByteArray.data_append]; simp
  rw [e1]
  exact ⟨_, _, rfl, (Kp.refl none_ _).keeps0, _, rfl, _, by unfold inF; rw [h, h2, h3]; rfl, k1.trans k2⟩
theorem c134 {w : World} (hml : ML w) (f s : ByteArray) (hf : f.size ≤ 1000000) : Rets Tryd.prog 134 #[.string f, .string s] w fun v w' => v = .bool (inF (bytesL f) (bytesL s)) ∧ Kp none_ w w' := by
  refine ent [_, _] Tryd.func134 ((vcTryd134 _ _ w _).mpr ?_)
  unfold VCTryd134
  refine (c170 hml f s hf).mono ?_
  rintro v w1 ⟨r, rfl, k1⟩
  exact ⟨_, _, rfl, k1.keeps0, _, rfl, rfl, k1⟩
theorem c132 (f s : ByteArray) (w : World) : Rets Tryd.prog 132 #[.string f, .string s] w fun v w' => v = .bool (inF (bytesL f) (bytesL s)) ∧ Kp none_ w w' := by
  refine ent [_, _] Tryd.func132 ((vcTryd132 _ _ w _).mpr ?_)
  unfold VCTryd132
  have hs := bytesL_size s
  have hf := bytesL_size f
  refine (c29 s w).mono ?_
  rintro v w1 ⟨rfl, k1⟩
  simp only [beq_str]
  have e0 : bytesL ({ data := #[] } : ByteArray) = [] := rfl
  rw [e0]
  refine ⟨_, rfl, k1.keeps0, bif_not (fun h => ⟨_, rfl, by unfold inF; rw [h]; rfl, k1⟩) (fun h => bif_not (fun h2 => ?_) (fun h2 => ?_))⟩
  · refine (c29 f w1).mono ?_
    rintro v w2 ⟨rfl, k2⟩
    have K := k1.trans k2
    refine ⟨_, rfl, k2.keeps0, bif_not (fun h3 => ⟨_, rfl, by unfold inF; rw [h, h2, h3]; rfl, K⟩) (fun h3 => bif_b (fun h4 => by rw [h2] at h4; cases h4) (fun _ => ?_))⟩
    have eI : inF (bytesL f) (bytesL s) = (bytesL f ++ [47]).isPrefixOf (bytesL s) := by unfold inF; rw [h, h2, h3]; simp
    rw [eI, prefix_slash]
    refine bif_dec (fun h5 => ⟨⟨by omega, by omega⟩, ?_⟩) (fun h5 => ⟨_, rfl, ?_, K⟩)
    · rw [bytesL_extract, Int.toNat_natCast, List.drop_zero, Nat.sub_zero]
      rw [decide_eq_true (show (bytesL f).length < (bytesL s).length by omega), Bool.true_and, hf]
      refine bif_b (fun h6 => ⟨⟨by omega, by omega⟩, _, rfl, ?_, K⟩) (fun h6 => ⟨_, rfl, ?_, K⟩)
      · rw [h6, Bool.true_and, byteAt_get (by omega), List.getElem?_eq_getElem (by omega)]
        congr 1
        rw [Bool.eq_iff_iff]
        simp only [beq_iff_eq, Option.some.injEq]
        constructor
        · intro e
          refine UInt8.toNat_inj.1 ?_
          show _ = 47
          omega
        · intro e
          rw [e]; rfl
      · rw [h6]; rfl
    · rw [decide_eq_false (by omega)]; rfl
  · refine bif_b (fun h3 => ⟨_, rfl, by unfold inF; rw [h, h2]; rfl, k1⟩) (fun h3 => by rw [h2] at h3; cases h3)
/-- The members of a folder. -/
def inL (l : List Mb) (f : List UInt8) : List Mb := l.filter fun b => inF f b.s
theorem inL_step {l : List Mb} {f : List UInt8} {j : Nat} (hj : j < l.length) : inL (l.take (j + 1)) f = if inF f l[j].s = true then inL (l.take j) f ++ [l[j]] else inL (l.take j) f := by
  unfold inL
  rw [List.take_succ_eq_append_getElem hj, List.filter_append]
  cases h : inF f l[j].s <;> simp [h]
theorem c76 {w : World} {q : Option Addr} {c : Nat} {l : List Mb} (h : MemsAt w q l) (hl : l.length ≤ 1000000) (s : ByteArray) : Rets Tryd.prog 76 #[.slice q l.length c, .string s] w fun v w' =>
    ∃ q' c', v = .slice q' (inL l (bytesL s)).length c' ∧ OwnRow w' (fun i => w.heap.size ≤ i) 50 7 (.slice q' (inL l (bytesL s)).length c') (inL l (bytesL s)).length (memsC (inL l (bytesL s))) ∧ Kp none_ w w' := by
  refine ent [_, _] Tryd.func76 ((vcTryd76 _ _ _ _ w _).mpr ?_)
  unfold VCTryd76
  refine ⟨fun i q n c w' => ∃ j : Nat, i = j ∧ j ≤ l.length ∧ n = (inL (l.take j) (bytesL s)).length ∧ OwnRow w' (fun i => w.heap.size ≤ i) 50 7 (.slice q n c) n (memsC (inL (l.take j) (bytesL s))) ∧ Kp (fun i => w.heap.size ≤ i) w w', fun i _ _ _ _ => (l.length - i).toNat, ⟨0, rfl, by omega, by simp [inL], by simpa [inL, memsC] using OwnRow.nil _ _ _ _, Kp.refl _ _⟩, ?_⟩
  rintro i q3 n4 c5 w6 ⟨j, rfl, hj, rfl, r6, k6⟩
  have hle : (inL (l.take j) (bytesL s)).length ≤ (l.take j).length := List.length_filter_le _ _
  have hlt : (l.take j).length ≤ j := by rw [List.length_take]; omega
  refine bif_dec (fun h1 => ⟨⟨by omega, by omega⟩, mem_at (h.far k6 (Nat.le_refl _)) (by omega) fun x _ m => ⟨_, m.c0, (c132 _ _ w6).mono ?_⟩⟩) (fun h1 => ⟨_, rfl, q3, c5, ?_, ?_, k6.narrow (Nat.le_refl _)⟩)
  · have hjl : j < l.length := by omega
    have hst := inL_step (f := bytesL s) hjl
    rintro v w7 ⟨rfl, k7⟩
    rw [bytesL_ba]
    have K7 := k6.trans k7.wide
    have r7 := r6.kp k7 fun _ _ _ _ _ => id
    refine ⟨_, rfl, k7.keeps0, bif_b (fun hh => ?_) (fun hh => wr64 (by omega) ⟨⟨j + 1, by omega, by omega, ?_, ?_, K7⟩, by first | omega | (dsimp only; omega)⟩)⟩
    · rw [if_pos hh] at hst
      refine ⟨⟨by omega, by omega⟩, mem_at (h.far K7 (Nat.le_refl _)) hjl fun y _ my => ⟨_, _, _, _, _, _, _, ⟨my.c0, my.c1, my.c2, my.c3, my.c4, my.c5, my.c6, trivial⟩, ?_⟩⟩
      refine push_mem l[j] r7 rfl (by omega) fun q' c' w' r' k1 k2 => ⟨_, _, _, rfl, k2.keeps0, wr64 (by omega) ⟨⟨j + 1, by omega, by omega, by rw [hst]; simp, ?_, K7.trans k1⟩, by first | omega | (dsimp only; omega)⟩⟩
      rw [hst]
      have hz := K7.size
      exact r'.mono fun i hi _ => hi.elim id fun hf => Nat.le_trans hz hf
    · rw [if_neg (by rw [hh]; decide)] at hst
      rw [hst]
    · rw [if_neg (by rw [hh]; decide)] at hst
      rw [hst]; exact r7
  · rw [List.take_of_length_le (by omega)]
  · rw [List.take_of_length_le (by omega)] at r6
    exact r6
/-- The iterator's function: it tells the members of a folder, one by one. -/
theorem c133 {w : World} {y : Value} {b1 b2 : Nat} {q : Option Addr} {c : Nat} {l : List Mb} {s : ByteArray} (hs : s.size ≤ 1000000) (hl : l.length ≤ 1000000)
    (J : List Mb → World → Prop) (E : World → Prop) (h0 : J [] w) (hg : ∀ l' w1 w2, J l' w1 → Kp none_ w1 w2 → J l' w2)
    (hinv : ∀ l' w1, J l' w1 → ML w1 ∧ w1.cell? ⟨b1, 0, none⟩ = some (.slice q l.length c) ∧ w1.cell? ⟨b2, 0, none⟩ = some (.string s) ∧ MemsAt w1 q l)
    (hstep : ∀ l' t r w1 w1', inL l (bytesL s) = l' ++ t :: r → J l' w1 → Kp none_ w1 w1' → CallsVal Tryd.prog y #[mbV t] w1' fun v w2 => ∃ b, v = .bool b ∧ Kp (fun i => i < w1.heap.size) w1' w2 ∧ cond b (J (l' ++ [t]) w2) (E w2)) :
    Rets Tryd.prog 133 #[y, .pointer (some ⟨b1, 0, none⟩), .pointer (some ⟨b2, 0, none⟩)] w fun v w' => v = .tuple #[] ∧ (J (inL l (bytesL s)) w' ∨ E w') := by
  refine ent [_, _, _] Tryd.func133 ((vcTryd133 _ _ _ w _).mpr ?_)
  unfold VCTryd133
  simp only [set7_def]
  rw [ptr_some]
  refine ⟨_, _, _, (hinv _ _ h0).2.1, fun i w' => ∃ j : Nat, i = j ∧ j ≤ l.length ∧ J (inL (l.take j) (bytesL s)) w', fun i _ => (l.length - i).toNat, ⟨0, rfl, by omega, by simpa [inL] using h0⟩, ?_⟩
  rintro i w7 ⟨j, rfl, hj, hJ⟩
  obtain ⟨hml, _, hb2, hm⟩ := hinv _ _ hJ
  refine bif_dec (fun h1 => ?_) (fun h1 => ⟨_, rfl, rfl, .inl ?_⟩)
  · have hjl : j < l.length := by omega
    have hst := inL_step (f := bytesL s) hjl
    refine ⟨⟨by omega, by omega⟩, mem_at hm hjl fun x _ mx => ⟨_, _, _, _, _, _, _, ⟨mx.c0, mx.c1, mx.c2, mx.c3, mx.c4, mx.c5, mx.c6, trivial⟩, ?_⟩⟩
    rw [ptr_some]
    have kn := newset7 (v0 := .string (ba l[j].s)) (v1 := .int .i64 l[j].a) (v2 := .int .i64 l[j].f) (v3 := .int .i64 l[j].r) (v4 := .int .i64 l[j].z) (v5 := .int .u32 l[j].u) (v6 := .int .i64 l[j].m) (cs := #[.string { data := #[] }, .int .i64 0, .int .i64 0, .int .i64 0, .int .i64 0, .int .u32 0, .int .i64 0]) (e := 50) (Kp.refl none_ w7)
    have zn : w7.heap.size < (set7 (w7.alloc (.cells #[.string { data := #[] }, .int .i64 0, .int .i64 0, .int .i64 0, .int .i64 0, .int .u32 0, .int .i64 0] 50)) w7.heap.size (.string (ba l[j].s)) (.int .i64 l[j].a) (.int .i64 l[j].f) (.int .i64 l[j].r) (.int .i64 l[j].z) (.int .u32 l[j].u) (.int .i64 l[j].m)).heap.size := newset7_lt
    generalize set7 (w7.alloc (.cells #[.string { data := #[] }, .int .i64 0, .int .i64 0, .int .i64 0, .int .i64 0, .int .u32 0, .int .i64 0] 50)) w7.heap.size (.string (ba l[j].s)) (.int .i64 l[j].a) (.int .i64 l[j].f) (.int .i64 l[j].r) (.int .i64 l[j].z) (.int .u32 l[j].u) (.int .i64 l[j].m) = wn at *
    refine ⟨_, kn.cell0 hb2, fun _ => (c134 (hml.kp0 kn) _ _ hs).mono ?_⟩
    rintro v w8 ⟨rfl, k8⟩
    rw [bytesL_ba]
    have K8 := kn.trans k8
    refine ⟨_, rfl, k8.k0 zn, bif_not (fun hh => wr64 (by omega) ⟨⟨j + 1, by omega, by omega, ?_⟩, by first | omega | (dsimp only; omega)⟩) (fun hh _ => ?_)⟩
    · rw [hst, if_neg (by rw [hh]; decide)]
      exact hg _ _ _ hJ K8
    · rw [if_pos hh] at hst
      have hsp : inL l (bytesL s) = inL (l.take j) (bytesL s) ++ l[j] :: inL (l.drop (j + 1)) (bytesL s) := by
        have e := List.take_append_drop (j + 1) l
        have : inL l (bytesL s) = inL (l.take (j + 1)) (bytesL s) ++ inL (l.drop (j + 1)) (bytesL s) := by
          unfold inL
          rw [← List.filter_append, e]
        rw [this, hst]; simp
      have hz8 := Nat.lt_of_lt_of_le zn k8.size
      refine (hstep _ _ _ w7 w8 hsp hJ K8).mono ?_
      rintro v w9 ⟨b, rfl, k9, hb⟩
      have kp9 : Keeps w8 w9 [w7.heap.size] := kso k9 (Nat.lt_irrefl _) hz8
      refine ⟨_, rfl, kp9, bif_not (fun hf _ => ⟨_, rfl, rfl, .inr ?_⟩) (fun ht => wr64 (by omega) ⟨⟨j + 1, by omega, by omega, ?_⟩, by first | omega | (dsimp only; omega)⟩)⟩
      · rw [hf] at hb; exact hb
      · rw [ht] at hb
        rw [hst]; exact hb
  · rw [List.take_of_length_le (by omega)] at hJ
    exact hJ
end Go.Proofs.YtbpknjldphckgaaDoor
