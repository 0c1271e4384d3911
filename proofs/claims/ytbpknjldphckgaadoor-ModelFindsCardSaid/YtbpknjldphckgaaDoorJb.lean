/- Model: a search; copies of files. -/
import Derived.Test.YtbpknjldphckgaaDoorJa
namespace Go.Proofs.YtbpknjldphckgaaDoor
open Go Go.SX Go.Proofs Go.Lib
set_option maxRecDepth 100000
set_option linter.unusedVariables false
set_option linter.unusedSimpArgs false
theorem add0 (a : Addr) : a.add 0 = a := by simp [Addr.add]
theorem wru64 {z : Int} {K : Int → Prop} (h : 0 ≤ z ∧ z < 18446744073709551616) (hK : K z) : Wr .u64 z K := by
  have : IntKind.wrap .u64 z = z := by
    simp [IntKind.wrap, IntKind.bits, IntKind.signed]
    omega
  unfold Wr; rw [this]; exact hK
theorem compare_less : ∀ a b : List UInt8, (Lib.compareBytes a b < 0 ↔ Op.bytesLess a b = true) ∧ (Lib.compareBytes a b = 0 ↔ a = b)
  | [], [] => by simp [Lib.compareBytes, Op.bytesLess]
  | [], _ :: _ => by simp [Lib.compareBytes, Op.bytesLess]
  | _ :: _, [] => by simp [Lib.compareBytes, Op.bytesLess]
  | x :: a, y :: b => by
    obtain ⟨h1, h2⟩ := compare_less a b
    unfold Lib.compareBytes
    rw [less_cons_iff]
    by_cases hxy : x < y
    · have hxy' : x.toNat < y.toNat := UInt8.lt_iff_toNat_lt.1 hxy
      rw [if_pos hxy]
      refine ⟨⟨fun _ => .inl hxy', fun _ => by decide⟩, ⟨fun h => (by cases h), fun h => ?_⟩⟩
      injection h with h _
      subst h; omega
    · have hxy' : ¬ x.toNat < y.toNat := fun h => hxy (UInt8.lt_iff_toNat_lt.2 h)
      rw [if_neg hxy]
      by_cases hyx : y < x
      · have hyx' : y.toNat < x.toNat := UInt8.lt_iff_toNat_lt.1 hyx
        rw [if_pos hyx]
        refine ⟨⟨fun h => (by cases h), fun h => ?_⟩, ⟨fun h => (by cases h), fun h => ?_⟩⟩
        · rcases h with h | ⟨rfl, _⟩ <;> omega
        · injection h with h _
          subst h; omega
      · have hyx' : ¬ y.toNat < x.toNat := fun h => hyx (UInt8.lt_iff_toNat_lt.2 h)
        have e : x = y := UInt8.toNat_inj.1 (by omega)
        subst e
        rw [if_neg hyx]
        refine ⟨⟨fun h => .inr ⟨rfl, h1.1 h⟩, fun h => ?_⟩, ⟨fun h => by rw [h2.1 h], fun h => ?_⟩⟩
        · rcases h with h | ⟨_, h⟩
          · exact absurd h hxy'
          · exact h1.2 h
        · injection h with _ h
          exact h2.2 h
theorem bytesL_ba (l : List UInt8) : bytesL (ba l) = l := ba_list _
abbrev kF : Fx → List UInt8 := Fx.s
theorem compare_range : ∀ a b : List UInt8, -1 ≤ Lib.compareBytes a b ∧ Lib.compareBytes a b ≤ 1
  | [], [] => by simp [Lib.compareBytes]
  | [], _ :: _ => by simp [Lib.compareBytes]
  | _ :: _, [] => by simp [Lib.compareBytes]
  | x :: a, y :: b => by
    have := compare_range a b
    unfold Lib.compareBytes
    split
    · decide
    · split
      · decide
      · exact this
theorem c167 (a b : ByteArray) (w : World) : Rets Tryd.prog 167 #[.string a, .string b] w fun v w' => v = .int .i64 (Lib.compareBytes (bytesL a) (bytesL b)) ∧ w' = w :=
  Calls.mono (Tryd.strings_Compare a b w) fun e w' ⟨h1, h2⟩ => ⟨_, h1, rfl, h2⟩
theorem c172 (b : Fx) (t : ByteArray) (w : World) : Rets Tryd.prog 172 #[fxV b, .string t] w fun v w' => v = .int .i64 (Lib.compareBytes b.s (bytesL t)) ∧ Kp none_ w w' := by
  refine ent [_, _] Tryd.func172 ((vcTryd172 _ _ _ _ _ w _).mpr ?_)
  unfold VCTryd172
  intro _
  refine (c167 _ _ _).mono ?_
  rintro v w1 ⟨rfl, rfl⟩
  rw [bytesL_ba]
  exact ⟨_, rfl, (Kp.refl none_ _).k0 (by rw [alloc_size]; omega), fun _ => ⟨_, rfl, rfl, (Kp.refl none_ w).alloc1 _⟩⟩
theorem isGo172 : isGo Tryd.prog 172 = true := by kernel_rfl
theorem c171 {w : World} {q : Option Addr} {c : Nat} {l : List Fx} (h : FxsAt w q l) (ha : Asc kF l) (hl : l.length ≤ 1000000) (s : ByteArray) : Rets Tryd.prog 171 #[.slice q l.length c, .string s, .func (.func 172) #[] #[]] w fun v w' =>
    v = .tuple #[.int .i64 (pos kF l (bytesL s)), .bool (has kF l (bytesL s))] ∧ Kp none_ w w' := by
  refine ent [_, _, _] Tryd.func171 ((vcTryd171 _ _ _ _ _ w _).mpr ?_)
  unfold VCTryd171
  refine ⟨fun jj ii w' => ∃ i j : Nat, ii = i ∧ jj = j ∧ i ≤ j ∧ j ≤ l.length ∧ Kp none_ w w' ∧ (∀ k (hk : k < l.length), k < i → Op.bytesLess (l[k]).s (bytesL s) = true) ∧ ∀ k (hk : k < l.length), j ≤ k → Op.bytesLess (l[k]).s (bytesL s) = false, fun jj ii _ => (jj - ii).toNat,
    ⟨0, l.length, rfl, rfl, by omega, by omega, Kp.refl _ _, fun k hk h => by omega, fun k hk h => by omega⟩, ?_⟩
  rintro jj ii w1 ⟨i, j, rfl, rfl, hij, hj, k1, hlo, hhi⟩
  refine bif_dec (fun hlt => wr64 (by omega) (wru64 (by omega) ⟨by decide, ?_⟩)) (fun hge => ?_)
  · have es : shrI .u64 ((i : Int) + (j : Int)) 1 = (((i + j) / 2 : Nat) : Int) := by
      unfold shrI
      have : min (1 : Int).toNat IntKind.u64.bits = 1 := by decide
      rw [this]
      rw [Int.fdiv_eq_ediv_of_nonneg _ (by decide)]
      omega
    rw [es]
    generalize hm : (i + j) / 2 = m
    have hmi : i ≤ m := by omega
    have hmj : m < j := by omega
    refine wr64 (by omega) ⟨⟨by omega, by omega⟩, fx_at (h.kp0 k1) (by omega) fun x _ mx => ⟨_, _, _, _, ⟨mx.c0, mx.c1, trivial⟩, isGo172, ?_⟩⟩
    show Rets Tryd.prog 172 #[fxV l[m], .string s] w1 _
    refine (c172 _ s w1).mono ?_
    rintro v w2 ⟨rfl, k2⟩
    have hc := compare_less (l[m]'(by omega)).s (bytesL s)
    refine ⟨_, rfl, k2.keeps0, bif_dec (fun hl => wr64 (by omega) ⟨⟨m + 1, j, by omega, rfl, by omega, hj, k1.trans k2, fun k hk hk2 => ?_, hhi⟩, by first | omega | (dsimp only; omega)⟩) (fun hl => ⟨⟨i, m, rfl, rfl, hmi, by omega, k1.trans k2, hlo, fun k hk hk2 => ?_⟩, by first | omega | (dsimp only; omega)⟩)⟩
    · by_cases e : k = m
      · subst e; exact hc.1.1 hl
      · have a := hc.1.1 hl
        exact less_trans _ _ _ (asc_get ha k m (by omega) (by omega)) a
    · cases hb : Op.bytesLess (l[k]).s (bytesL s) with
      | false => rfl
      | true =>
        exfalso
        refine hl (hc.1.2 ?_)
        by_cases e : k = m
        · subst e; exact hb
        · exact less_trans _ _ _ (asc_get ha m k (by omega) hk) hb
  · have eij : i = j := by omega
    subst eij
    have ep : i = pos kF l (bytesL s) := pos_unique ha hj hlo hhi
    have eh := has_eq ha (bytesL s)
    rw [← ep] at eh ⊢
    refine bif_dec (fun hlt => ⟨⟨by omega, by omega⟩, fx_at (h.kp0 k1) (by omega) fun x _ mx => ⟨_, _, _, _, ⟨mx.c0, mx.c1, trivial⟩, isGo172, ?_⟩⟩) (fun hge2 => ⟨_, rfl, ?_, k1⟩)
    · show Rets Tryd.prog 172 #[fxV l[i], .string s] w1 _
      refine (c172 _ s w1).mono ?_
      rintro v w2 ⟨rfl, k2⟩
      refine ⟨_, rfl, k2.keeps0, _, rfl, ?_, k1.trans k2⟩
      rw [List.getElem?_eq_getElem (by omega)] at eh
      simp only at eh
      rw [eh]
      have hc := (compare_less (l[i]'(by omega)).s (bytesL s)).2
      have e2 : (Lib.compareBytes (l[i]'(by omega)).s (bytesL s) == 0) = (kF (l[i]'(by omega)) == bytesL s) := by
        rw [Bool.eq_iff_iff]
        simp only [beq_iff_eq]
        exact hc
      rw [e2]
    · rw [List.getElem?_eq_none (by omega)] at eh
      simp only at eh
      rw [eh]

theorem pos_map {l : List Fx} (s : List UInt8) : pos Prod.fst (l.map Fx.fil) s = pos kF l s := by
  induction l with
  | nil => rfl
  | cons x r ih => simp only [List.map_cons, pos, ih]
theorem has_map {l : List Fx} (s : List UInt8) : has Prod.fst (l.map Fx.fil) s = has kF l s := by
  unfold has
  rw [List.any_map]
  rfl
theorem kso {O : Nat → Prop} {w w' : World} {g : Nat} (k : Kp O w w') (hg : ¬ O g) (hl : g < w.heap.size) : Keeps w w' [g] := k.keeps fun b hb => by
  rw [List.mem_singleton] at hb
  subst hb
  exact ⟨hl, hg⟩
theorem asc_map {l : List Fx} : Asc Prod.fst (l.map Fx.fil) ↔ Asc kF l := by
  induction l with
  | nil => exact Iff.rfl
  | cons x r ih =>
    simp only [List.map_cons, Asc, ih, List.mem_map, forall_exists_index, and_imp, forall_apply_eq_imp_iff₂]
theorem c137 {w : World} {q : Option Addr} {c n : Nat} {L : List Fil} (h : FRd w q n L) (ha : Asc Prod.fst L) (hl : L.length ≤ 1000000) (s : ByteArray) : Rets Tryd.prog 137 #[.slice q n c, .string s] w fun v w' =>
    v = .tuple #[.int .i64 (pos Prod.fst L (bytesL s)), .bool (has Prod.fst L (bytesL s))] ∧ Kp none_ w w' := by
  obtain ⟨l, rfl, rfl, hx, hd⟩ := h
  refine ent [_, _] Tryd.func137 ((vcTryd137 _ _ _ _ w _).mpr ?_)
  unfold VCTryd137
  rw [pos_map, has_map]
  refine (c171 hx (asc_map.1 ha) (by simpa using hl) s).mono ?_
  rintro v w1 ⟨rfl, k1⟩
  exact ⟨_, _, rfl, k1.keeps0, _, rfl, rfl, k1⟩
/-- 'make([]T, 0, n)' -/
theorem make_cap2 {P : Program} {w : World} {t e : TypeId} {n size : Nat} {K : Value → World → Prop} (hs0 : 0 < size) (ht : P.underlying t = some (.slice e)) (he : elemOk P e size = true) (hn : n ≤ 137438953472)
    (hK : ∀ w', OwnRow w' (fresh w) e size (.slice (some ⟨w.heap.size, 0, none⟩) 0 n) 0 [] → Kp none_ w w' → K (.slice (some ⟨w.heap.size, 0, none⟩) 0 n) w') :
    Runs P (Instr.makeSlice t (.int .i64 0) (.int .i64 n)) w K := by
  obtain ⟨i, z, hi, hz, hsize, hzc, hby⟩ := elemOk_spec he
  have hw : IntKind.i64.wrap (n : Int) = n := by rw [IntKind.wrap_i64]; omega
  have hw0 : IntKind.i64.wrap 0 = 0 := by decide
  have hb : i.bytes * n ≤ 281474976710656 := Nat.le_trans (Nat.mul_le_mul_right n hby) (by omega)
  have hbi : ¬ (281474976710656 < (i.bytes : Int) * (n : Int)) := by
    rw [← Int.natCast_mul]
    omega
  have hneg : ¬ ((n : Int) < 0) := by omega
  have hr : ∃ cur : Array Value, cur.size = n * size ∧ (Instr.makeSlice t (.int .i64 0) (.int .i64 n)).run P w = .ok (.slice (some ⟨w.heap.size, 0, none⟩) 0 n) (w.alloc (.cells cur e)) := by
    by_cases h0 : n = 0
    · subst h0
      refine ⟨_, ?_, by
        simp [Instr.makeSlice, run_underlying ht, sizeOf, typeInfo, zeroValue, hi, hz, asInt, asIntOf, hw0, hsize, newRow]
        rfl⟩
      simp
    · have hns : n * size ≠ 0 := Nat.mul_ne_zero h0 (by omega)
      refine ⟨_, ?_, by
        simp [Instr.makeSlice, run_underlying ht, sizeOf, typeInfo, zeroValue, hi, hz, asInt, asIntOf, hw, hw0, hbi, hneg, hsize, h0, newRow]
        rw [if_neg (by omega)]⟩
      simp
  obtain ⟨cur, hcs, hr⟩ := hr
  refine ⟨_, _, hr, hK _ ⟨by simp, .inr ⟨w.heap.size, n, _, rfl, Nat.le_refl _, by rw [alloc_get]; exact if_pos rfl, by omega, by simp only [maxLen]; omega, hcs, by simp⟩⟩ ((Kp.refl none_ w).alloc _ _)⟩
end Go.Proofs.YtbpknjldphckgaaDoor
