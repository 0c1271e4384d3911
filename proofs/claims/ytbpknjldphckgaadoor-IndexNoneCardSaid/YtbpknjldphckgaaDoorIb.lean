/- Index: a search in a list that rises by names; what an index is; its members. -/
import Derived.Test.YtbpknjldphckgaaDoorIa
namespace Go.Proofs.YtbpknjldphckgaaDoor
open Go Go.SX Go.Proofs Go.Lib
set_option maxRecDepth 100000
set_option linter.unusedVariables false
set_option linter.unusedSimpArgs false
theorem add0 (a : Addr) : a.add 0 = a := by simp [Addr.add]
theorem wru64 {z : Int} {K : Int → Prop} (h : 0 ≤ z ∧ z < 18446744073709551616) (hK : K z) : Wr .u64 z K := by
  have : IntKind.wrap .u64 z = z := by
    simp [IntKind.wrap, IntKind.bits, IntKind.signed]
    omega
  unfold Wr; rw [this]; exact hK
theorem compare_less : ∀ a b : List UInt8, (Lib.compareBytes a b < 0 ↔ Op.bytesLess a b = true) ∧ (Lib.compareBytes a b = 0 ↔ a = b)
  | [], [] => by simp [Lib.compareBytes, Op.bytesLess]
  | [], _ :: _ => by simp [Lib.compareBytes, Op.bytesLess]
  | _ :: _, [] => by simp [Lib.compareBytes, Op.bytesLess]
  | x :: a, y :: b => by
    obtain ⟨h1, h2⟩ := compare_less a b
    unfold Lib.compareBytes
    rw [less_cons_iff]
    by_cases hxy : x < y
    · have hxy' : x.toNat < y.toNat := UInt8.lt_iff_toNat_lt.1 hxy
      rw [if_pos hxy]
      refine ⟨⟨fun _ => .inl hxy', fun _ => by decide⟩, ⟨fun h => (by cases h), fun h => ?_⟩⟩
      injection h with h _
      subst h; omega
    · have hxy' : ¬ x.toNat < y.toNat := fun h => hxy (UInt8.lt_iff_toNat_lt.2 h)
      rw [if_neg hxy]
      by_cases hyx : y < x
      · have hyx' : y.toNat < x.toNat := UInt8.lt_iff_toNat_lt.1 hyx
        rw [if_pos hyx]
        refine ⟨⟨fun h => (by cases h), fun h => ?_⟩, ⟨fun h => (by cases h), fun h => ?_⟩⟩
        · rcases h with h | ⟨rfl, _⟩ <;> omega
        · injection h with h _
          subst h; omega
      · have hyx' : ¬ y.toNat < x.toNat := fun h => hyx (UInt8.lt_iff_toNat_lt.2 h)
        have e : x = y := UInt8.toNat_inj.1 (by omega)
        subst e
        rw [if_neg hyx]
        refine ⟨⟨fun h => .inr ⟨rfl, h1.1 h⟩, fun h => ?_⟩, ⟨fun h => by rw [h2.1 h], fun h => ?_⟩⟩
        · rcases h with h | ⟨_, h⟩
          · exact absurd h hxy'
          · exact h1.2 h
        · injection h with _ h
          exact h2.2 h
theorem compare_range : ∀ a b : List UInt8, -1 ≤ Lib.compareBytes a b ∧ Lib.compareBytes a b ≤ 1
  | [], [] => by simp [Lib.compareBytes]
  | [], _ :: _ => by simp [Lib.compareBytes]
  | _ :: _, [] => by simp [Lib.compareBytes]
  | x :: a, y :: b => by
    have := compare_range a b
    unfold Lib.compareBytes
    split
    · decide
    · split
      · decide
      · exact this
theorem c167 (a b : ByteArray) (w : World) : Rets Tryd.prog 167 #[.string a, .string b] w fun v w' => v = .int .i64 (Lib.compareBytes (bytesL a) (bytesL b)) ∧ w' = w :=
  Calls.mono (Tryd.strings_Compare a b w) fun e w' ⟨h1, h2⟩ => ⟨_, h1, rfl, h2⟩
theorem c166 (b : Mb) (t : ByteArray) (w : World) : Rets Tryd.prog 166 #[mbV b, .string t] w fun v w' => v = .int .i64 (Lib.compareBytes b.s (bytesL t)) ∧ Kp none_ w w' := by
  refine ent [_, _] Tryd.func166 ((vcTryd166 _ _ _ _ _ _ _ _ w _).mpr ?_)
  unfold VCTryd166
  intro _
  refine (c167 _ _ _).mono ?_
  rintro v w1 ⟨rfl, rfl⟩
  rw [bytesL_ba]
  exact ⟨_, rfl, (Kp.refl none_ _).k0 (by rw [alloc_size]; omega), fun _ => ⟨_, rfl, rfl, (Kp.refl none_ w).alloc1 _⟩⟩
theorem isGo166 : isGo Tryd.prog 166 = true := by kernel_rfl
theorem c165 {w : World} {q : Option Addr} {c : Nat} {l : List Mb} (h : MemsAt w q l) (ha : Asc kM l) (hl : l.length ≤ 1000000) (s : ByteArray) : Rets Tryd.prog 165 #[.slice q l.length c, .string s, .func (.func 166) #[] #[]] w fun v w' =>
    v = .tuple #[.int .i64 (pos kM l (bytesL s)), .bool (has kM l (bytesL s))] ∧ Kp none_ w w' := by
  refine ent [_, _, _] Tryd.func165 ((vcTryd165 _ _ _ _ _ w _).mpr ?_)
  unfold VCTryd165
  refine ⟨fun jj ii w' => ∃ i j : Nat, ii = i ∧ jj = j ∧ i ≤ j ∧ j ≤ l.length ∧ Kp none_ w w' ∧ (∀ k (hk : k < l.length), k < i → Op.bytesLess (l[k]).s (bytesL s) = true) ∧ ∀ k (hk : k < l.length), j ≤ k → Op.bytesLess (l[k]).s (bytesL s) = false, fun jj ii _ => (jj - ii).toNat,
    ⟨0, l.length, rfl, rfl, by omega, by omega, Kp.refl _ _, fun k hk h => by omega, fun k hk h => by omega⟩, ?_⟩
  rintro jj ii w1 ⟨i, j, rfl, rfl, hij, hj, k1, hlo, hhi⟩
  refine bif_dec (fun hlt => wr64 (by omega) (wru64 (by omega) ⟨by decide, ?_⟩)) (fun hge => ?_)
  · have es : shrI .u64 ((i : Int) + (j : Int)) 1 = (((i + j) / 2 : Nat) : Int) := by
      unfold shrI
      have : min (1 : Int).toNat IntKind.u64.bits = 1 := by decide
      rw [this]
      rw [Int.fdiv_eq_ediv_of_nonneg _ (by decide)]
      omega
    rw [es]
    generalize hm : (i + j) / 2 = m
    have hmi : i ≤ m := by omega
    have hmj : m < j := by omega
    refine wr64 (by omega) ⟨⟨by omega, by omega⟩, mem_at (h.kp0 k1) (by omega) fun x _ mx => ⟨_, _, _, _, _, _, _, ⟨mx.c0, mx.c1, mx.c2, mx.c3, mx.c4, mx.c5, mx.c6, trivial⟩, isGo166, ?_⟩⟩
    show Rets Tryd.prog 166 #[mbV l[m], .string s] w1 _
    refine (c166 _ s w1).mono ?_
    rintro v w2 ⟨rfl, k2⟩
    have hc := compare_less (l[m]'(by omega)).s (bytesL s)
    refine ⟨_, rfl, k2.keeps0, bif_dec (fun hl => wr64 (by omega) ⟨⟨m + 1, j, by omega, rfl, by omega, hj, k1.trans k2, fun k hk hk2 => ?_, hhi⟩, by first | omega | (dsimp only; omega)⟩) (fun hl => ⟨⟨i, m, rfl, rfl, hmi, by omega, k1.trans k2, hlo, fun k hk hk2 => ?_⟩, by first | omega | (dsimp only; omega)⟩)⟩
    · by_cases e : k = m
      · subst e; exact hc.1.1 hl
      · have a := hc.1.1 hl
        exact less_trans _ _ _ (asc_get ha k m (by omega) (by omega)) a
    · cases hb : Op.bytesLess (l[k]).s (bytesL s) with
      | false => rfl
      | true =>
        exfalso
        refine hl (hc.1.2 ?_)
        by_cases e : k = m
        · subst e; exact hb
        · exact less_trans _ _ _ (asc_get ha m k (by omega) hk) hb
  · have eij : i = j := by omega
    subst eij
    have ep : i = pos kM l (bytesL s) := pos_unique ha hj hlo hhi
    have eh := has_eq ha (bytesL s)
    rw [← ep] at eh ⊢
    refine bif_dec (fun hlt => ⟨⟨by omega, by omega⟩, mem_at (h.kp0 k1) (by omega) fun x _ mx => ⟨_, _, _, _, _, _, _, ⟨mx.c0, mx.c1, mx.c2, mx.c3, mx.c4, mx.c5, mx.c6, trivial⟩, isGo166, ?_⟩⟩) (fun hge2 => ⟨_, rfl, ?_, k1⟩)
    · show Rets Tryd.prog 166 #[mbV l[i], .string s] w1 _
      refine (c166 _ s w1).mono ?_
      rintro v w2 ⟨rfl, k2⟩
      refine ⟨_, rfl, k2.keeps0, _, rfl, ?_, k1.trans k2⟩
      rw [List.getElem?_eq_getElem (by omega)] at eh
      simp only at eh
      rw [eh]
      have hc := (compare_less (l[i]'(by omega)).s (bytesL s)).2
      have e2 : (Lib.compareBytes (l[i]'(by omega)).s (bytesL s) == 0) = (kM (l[i]'(by omega)) == bytesL s) := by
        rw [Bool.eq_iff_iff]
        simp only [beq_iff_eq]
        exact hc
      rw [e2]
    · rw [List.getElem?_eq_none (by omega)] at eh
      simp only at eh
      rw [eh]
/-- An index: a cell b that has a row of its own; the blocks of O are its own. -/
structure IxAt (w : World) (O : Nat → Prop) (b : Nat) (l : List Mb) : Prop where
  row : ∃ q c, w.cell? ⟨b, 0, none⟩ = some (.slice q l.length c) ∧ OwnRow w (fun i => O i ∧ i ≠ b) 50 7 (.slice q l.length c) l.length (memsC l)
  frz : w.frozen? ⟨b, 0, none⟩ = false
  own : O b
theorem IxAt.lt {w : World} {O : Nat → Prop} {b : Nat} {l : List Mb} (h : IxAt w O b l) : b < w.heap.size := by
  obtain ⟨q, c, hc, _⟩ := h.row
  exact cell_lt hc
theorem IxAt.kp {S O O' : Nat → Prop} {w w' : World} {b : Nat} {l : List Mb} (h : IxAt w O b l) (k : Kp S w w') (hs : ∀ i, i < w.heap.size → O i → ¬ S i ∧ O' i) : IxAt w' O' b l := by
  obtain ⟨q, c, hc, hr⟩ := h.row
  have hb := hs b h.lt h.own
  refine ⟨⟨q, c, k.cell hc hb.1, ((hr.mono (own' := fun i => (O' i ∧ i ≠ b) ∧ ¬ S i) fun i hi hl => ⟨⟨(hs i hl hi.1).2, hi.2⟩, (hs i hl hi.1).1⟩).kp k fun g n cap _ hg => hg.2).mono fun i hi _ => hi.1⟩, (k.frz ⟨b, 0, none⟩ h.lt).trans h.frz, hb.2⟩
theorem IxAt.kp0 {O : Nat → Prop} {w w' : World} {b : Nat} {l : List Mb} (h : IxAt w O b l) (k : Kp none_ w w') : IxAt w' O b l := h.kp k fun i _ hi => ⟨id, hi⟩
theorem IxAt.mono {O O' : Nat → Prop} {w : World} {b : Nat} {l : List Mb} (h : IxAt w O b l) (hs : ∀ i, i < w.heap.size → O i → O' i) : IxAt w O' b l := h.kp (Kp.refl none_ w) fun i hl hi => ⟨id, hs i hl hi⟩
theorem c129 {w : World} {O : Nat → Prop} {b : Nat} {l : List Mb} (h : IxAt w O b l) (ha : Asc kM l) (hl : l.length ≤ 1000000) (s : ByteArray) : Rets Tryd.prog 129 #[.pointer (some ⟨b, 0, none⟩), .string s] w fun v w' =>
    v = .tuple #[.int .i64 (pos kM l (bytesL s)), .bool (has kM l (bytesL s))] ∧ Kp none_ w w' := by
  refine ent [_, _] Tryd.func129 ((vcTryd129 _ _ w _).mpr ?_)
  unfold VCTryd129
  obtain ⟨q, c, hc, hr⟩ := h.row
  rw [ptr_some, add0]
  refine ⟨_, _, _, hc, (c165 (mems_of hr) ha hl s).mono ?_⟩
  rintro v w1 ⟨rfl, k1⟩
  exact ⟨_, _, rfl, k1.keeps0, _, rfl, rfl, k1⟩
theorem c69 {w : World} {O : Nat → Prop} {b : Nat} {l : List Mb} (h : IxAt w O b l) : Rets Tryd.prog 69 #[.pointer (some ⟨b, 0, none⟩)] w fun v w' => v = .int .i64 l.length ∧ w' = w := by
  refine ent [_] Tryd.func69 ((vcTryd69 _ w _).mpr ?_)
  unfold VCTryd69
  obtain ⟨q, c, hc, hr⟩ := h.row
  refine bif_b (fun hn => by cases hn) (fun _ => ?_)
  rw [ptr_some, add0]
  exact ⟨_, _, _, hc, _, rfl, rfl, rfl⟩
theorem c80 {w : World} {O : Nat → Prop} {b : Nat} {l : List Mb} (h : IxAt w O b l) (ha : Asc kM l) (hl : l.length ≤ 1000000) (s : ByteArray) : Rets Tryd.prog 80 #[.pointer (some ⟨b, 0, none⟩), .string s] w fun v w' => v = .bool (has kM l (bytesL s) || decide (l.length < 200)) ∧ Kp none_ w w' := by
  refine ent [_, _] Tryd.func80 ((vcTryd80 _ _ w _).mpr ?_)
  unfold VCTryd80
  show Rets _ _ _ _ _
  refine (c129 h ha hl s).mono ?_
  rintro v w1 ⟨rfl, k1⟩
  refine ⟨_, _, rfl, k1.keeps0, bif_b (fun hh => ⟨_, rfl, by rw [hh]; rfl, k1⟩) (fun hh => ?_)⟩
  obtain ⟨q, c, hc, hr⟩ := (h.kp0 k1).row
  rw [ptr_some, add0]
  refine ⟨_, _, _, hc, _, rfl, ?_, k1⟩
  rw [hh, Bool.false_or]
  congr 1
  exact decide_eq_decide.2 (by omega)
/-- A copy. -/
theorem c124 {w : World} {q : Option Addr} {c : Nat} {l : List Mb} (h : MemsAt w q l) (hl : l.length ≤ 1000000) : Rets Tryd.prog 124 #[.slice q l.length c] w fun v w' =>
    ∃ q' c', v = .slice q' l.length c' ∧ OwnRow w' (fun i => w.heap.size ≤ i) 50 7 (.slice q' l.length c') l.length (memsC l) ∧ Kp none_ w w' := by
  refine ent [_] Tryd.func124 ((vcTryd124 _ _ _ w _).mpr ?_)
  unfold VCTryd124
  cases q with
  | none =>
    have : l = [] := by
      cases l with
      | nil => rfl
      | cons b r =>
        obtain ⟨x, e, _⟩ := h 0 (by simp)
        cases e
    subst this
    exact ⟨_, rfl, _, _, rfl, OwnRow.nil _ _ _ _, Kp.refl _ _⟩
  | some x =>
    show Runs _ _ _ _
    refine ⟨_, _, lit_run w und42 (elemOk_spec elem50 |>.elim fun i h => h.elim fun z h => ⟨i, h.1⟩), _, _, _, rfl, ((Kp.refl none_ w).alloc1 _).keeps0, ?_⟩
    have k0 : Kp none_ w (w.alloc (.cells #[] 50)) := (Kp.refl none_ w).alloc1 _
    have r0 : OwnRow (w.alloc (.cells #[] 50)) (fun i => w.heap.size ≤ i) 50 7 (.slice (some ⟨w.heap.size, 0, none⟩) 0 0) 0 [] := ⟨rfl, .inr ⟨w.heap.size, 0, #[], rfl, Nat.le_refl _, by rw [alloc_get, if_pos rfl], Nat.le_refl _, by decide, rfl, rfl⟩⟩
    have m0 := h.kp0 k0
    by_cases h0 : l.length = 0
    · have : l = [] := List.eq_nil_of_length_eq_zero h0
      subst this
      refine append_room (n := 0) (m := 0) (news := []) und42 elem50 (by omega) r0 ⟨_, rfl⟩ rfl (fun j u hj => by simp at hj) (fun u hu => by cases hu) (by omega) fun w' r' k' => ⟨_, _, _, rfl, k'.keeps0, _, rfl, _, _, rfl, r', (k0.wide.trans k').narrow (Nat.le_refl _)⟩
    · refine append_own (own := fun i => w.heap.size ≤ i) (xs := []) (news := memsC l) und42 elem50 (by omega) r0 (memsC_len l) (fun j u hj => ?_) (memsC_one l) (by omega) (by omega) fun v' w' r' k' => ?_
      · have hjl := (List.getElem?_eq_some_iff.1 hj).1
        rw [memsC_len] at hjl
        obtain ⟨y, e, my⟩ := m0 (j / 7) (by omega)
        cases e
        have hj7 : j = j / 7 * 7 + j % 7 := by omega
        have hm : j % 7 < 7 := Nat.mod_lt _ (by omega)
        rw [hj7] at hj ⊢
        rw [memsC_get l _ (by omega) _ hm] at hj
        rw [← add_add]
        generalize j % 7 = r at *
        have : r = 0 ∨ r = 1 ∨ r = 2 ∨ r = 3 ∨ r = 4 ∨ r = 5 ∨ r = 6 := by omega
        rcases this with rfl | rfl | rfl | rfl | rfl | rfl | rfl <;> (simp [mbC] at hj; subst hj)
        · exact my.c0
        · exact my.c1
        · exact my.c2
        · exact my.c3
        · exact my.c4
        · exact my.c5
        · exact my.c6
      · obtain ⟨q', c', rfl⟩ := r'.slice
        rw [Nat.zero_add, List.nil_append] at r'
        rw [Nat.zero_add]
        refine ⟨_, _, _, rfl, k'.keeps0, _, rfl, _, _, rfl, r'.mono fun i hi _ => hi.elim id fun hf => Nat.le_trans k0.size hf, (k0.wide.trans k').narrow (Nat.le_refl _)⟩
theorem c70 {w : World} {O : Nat → Prop} {b : Nat} {l : List Mb} (h : IxAt w O b l) (hl : l.length ≤ 1000000) : Rets Tryd.prog 70 #[.pointer (some ⟨b, 0, none⟩)] w fun v w' =>
    ∃ q' c', v = .slice q' l.length c' ∧ OwnRow w' (fun i => w.heap.size ≤ i) 50 7 (.slice q' l.length c') l.length (memsC l) ∧ Kp none_ w w' := by
  refine ent [_] Tryd.func70 ((vcTryd70 _ w _).mpr ?_)
  unfold VCTryd70
  obtain ⟨q, c, hc, hr⟩ := h.row
  refine bif_b (fun hn => by cases hn) (fun _ => ?_)
  rw [ptr_some, add0]
  refine ⟨_, _, _, hc, (c124 (mems_of hr) hl).mono ?_⟩
  rintro v w1 ⟨q', c', rfl, r', k1⟩
  exact ⟨_, _, _, rfl, k1.keeps0, _, rfl, _, _, rfl, r', k1⟩
theorem c72 {w : World} {q : Option Addr} {c : Nat} {l : List Mb} (h : MemsAt w q l) (hs : ∀ b ∈ l, b.s.length ≤ 200) (hl : l.length ≤ 10000) : Rets Tryd.prog 72 #[.slice q l.length c] w fun v w' => v = .int .i64 (20 + lenL l : Nat) ∧ w' = w := by
  refine ent [_] Tryd.func72 ((vcTryd72 _ _ _ w _).mpr ?_)
  unfold VCTryd72
  refine ⟨fun i n w' => ∃ j : Nat, i = j ∧ j ≤ l.length ∧ n = (20 + lenL (l.take j) : Nat) ∧ w' = w, fun i _ _ => (l.length - i).toNat, ⟨0, rfl, by omega, by simp [lenL], rfl⟩, ?_⟩
  rintro i n w3 ⟨j, rfl, hj, rfl, rfl⟩
  refine bif_dec (fun h1 => ?_) (fun h1 => ⟨_, rfl, ?_, rfl⟩)
  · have hjl : j < l.length := by omega
    have := lenL_le hs j
    have := hs _ (List.getElem_mem hjl)
    refine wr64 (by omega) ⟨⟨by omega, by omega⟩, mem_at h hjl fun x hx mx => ⟨_, mx.c0, ?_⟩⟩
    rw [ba_size]
    exact wr64 (by omega) (wr64 (by omega) ⟨⟨j + 1, by omega, by omega, by rw [lenL_step hjl]; omega, rfl⟩, by first | omega | (dsimp only; omega)⟩)
  · rw [List.take_of_length_le (by omega)]
theorem c46x {w : World} {q : Option Addr} {c : Nat} {l : List Mb} (h : MemsAt w q l) (hs : ∀ b ∈ l, b.s.length ≤ 200) (hl : l.length ≤ 250) : Rets Tryd.prog 46 #[.slice q l.length c] w fun v w' => v = .int .i64 (lenL l) ∧ Kp none_ w w' := c46 h hs hl
theorem c71 {w : World} {O : Nat → Prop} {b : Nat} {l : List Mb} (h : IxAt w O b l) (hs : ∀ b ∈ l, b.s.length ≤ 200) (hl : l.length ≤ 250) : Rets Tryd.prog 71 #[.pointer (some ⟨b, 0, none⟩)] w fun v w' => v = .int .i64 (20 + lenL l : Nat) ∧ Kp none_ w w' := by
  refine ent [_] Tryd.func71 ((vcTryd71 _ w _).mpr ?_)
  unfold VCTryd71
  obtain ⟨q, c, hc, hr⟩ := h.row
  refine bif_b (fun hn => by cases hn) (fun _ => ?_)
  rw [ptr_some, add0]
  refine ⟨_, _, _, hc, (c46 (mems_of hr) hs hl).mono ?_⟩
  rintro v w1 ⟨rfl, k1⟩
  have := lenL_le hs l.length
  rw [List.take_length] at this
  exact ⟨_, rfl, k1.keeps0, wr64 (by omega) ⟨_, rfl, by rw [show ((lenL l : Nat) : Int) + 20 = ((20 + lenL l : Nat) : Int) by omega], k1⟩⟩
theorem c65 {w : World} {q : Option Addr} {c : Nat} {l : List Mb} (h : MemsAt w q l) : Rets Tryd.prog 65 #[.slice q l.length c] w fun v w' => ∃ t, v = .bool t ∧ w' = w ∧ (t = false → l.length ≤ 250 ∧ ∀ b ∈ l, b.s.length ≤ 200) := by
  refine ent [_] Tryd.func65 ((vcTryd65 _ _ _ w _).mpr ?_)
  unfold VCTryd65
  refine ⟨fun i w' => ∃ j : Nat, i = j ∧ j ≤ 300 ∧ j ≤ l.length ∧ w' = w ∧ ∀ k (hk : k < l.length), k < j → (l[k]).s.length ≤ 200, fun i _ => (l.length - i).toNat, ⟨0, rfl, by omega, by omega, rfl, fun k hk h => by omega⟩, ?_⟩
  rintro i w' ⟨j, rfl, hj, hjl, rfl, ha⟩
  have fin : (300 ≤ j ∨ l.length ≤ j) → ∃ v, Ending.returned (Value.bool (decide ((l.length : Int) > 250))) = Ending.returned v ∧ ∃ t, v = .bool t ∧ w' = w' ∧ (t = false → l.length ≤ 250 ∧ ∀ b ∈ l, b.s.length ≤ 200) := fun hh => ⟨_, rfl, _, rfl, rfl, fun ht => by
    have hn := of_decide_eq_false ht
    refine ⟨by omega, fun b hb => ?_⟩
    obtain ⟨k, hk, e⟩ := List.getElem_of_mem hb
    rw [← e]
    exact ha k hk (by omega)⟩
  refine bif_dec (fun h1 => bif_dec (fun h2 => ⟨⟨by omega, by omega⟩, mem_at h (by omega) fun x _ m => ⟨_, m.c0, bif_dec (fun h3 => ⟨_, rfl, _, rfl, rfl, fun h => by cases h⟩) (fun h3 => wr64 (by omega) ⟨⟨j + 1, by omega, by omega, by omega, rfl, fun k hk hkj => ?_⟩, by first | omega | (dsimp only; omega)⟩)⟩⟩) (fun h2 => fin (by omega))) (fun h1 => fin (by omega))
  rw [ba_size] at h3
  by_cases e : k = j
  · subst e; omega
  · exact ha k hk (by omega)
end Go.Proofs.YtbpknjldphckgaaDoor
