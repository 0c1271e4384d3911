import Derived.Test.YtlgkcbdpaffigaaBd
namespace Go.Proofs.Ytlgkcbdpaffigaa
open Go Go.SX Go.Proofs
set_option maxRecDepth 100000
set_option linter.unusedVariables false
set_option linter.unusedSimpArgs false
theorem byF_set (f : Int → Int) (n k : Nat) (x : Int) : (byF f n).set k (.int .u8 x) = byF (fun p => if p = (k : Int) then x else f p) n := by
  apply List.ext_getElem
  · simp [byF]
  · intro i h1 h2
    rw [List.getElem_set]
    simp only [byF, List.getElem_map, List.getElem_range]
    by_cases e : k = i
    · rw [if_pos e, if_pos (by omega)]
    · rw [if_neg e, if_neg (by omega)]
theorem byF_congr {f g : Int → Int} {n : Nat} (h : ∀ i : Nat, i < n → f i = g i) : byF f n = byF g n := by
  unfold byF
  apply List.map_congr_left
  intro i hi
  rw [h i (List.mem_range.1 hi)]
section
variable {w w' : World} {col col' : Col} {D : Nat} {s : St} {S : Nat → Prop}
/-- Only bytes of the row were changed. -/
theorem Dsk.nowSet (h : Dsk w col D s) {g c : Nat} {now' : Int → Int} (hD : w.cell? ⟨D, 0, none⟩ = some (.slice (some ⟨g, 0, none⟩) (512 * s.size) c)) (hk : Kp (cl col 2) w w') (hr : OwnRow w' (cl col 2) 5 1 (.slice (some ⟨g, 0, none⟩) (512 * s.size) c) (512 * s.size) (byF now' (512 * s.size))) (hb : ∀ p, isByte (now' p)) : Dsk w' col D { s with now := now' } := by
  have hd := h.dlt
  have nD : ¬ cl col 2 D := fun hh => by have := h.colD; unfold cl at hh; omega
  have ne : ∀ i k, cl col 2 i → k ≠ 2 → col i ≠ k := fun i k hi hk => by unfold cl at hi; omega
  exact ⟨h.colD, fun i hi => Nat.lt_of_lt_of_le (h.lt i hi) hk.size, fun o => (hk.frz ⟨D, o, none⟩ hd).trans (h.frz o), ⟨_, c, hk.cell hD nD, hr⟩, h.safeK hk (fun i _ hi => ⟨ne i 3 hi (by omega), ne i 5 hi (by omega)⟩) (fun _ _ => rfl) (fun v hv => hk.cell hv nD), h.waitK hk (fun i _ hi => ⟨ne i 4 hi (by omega), ne i 5 hi (by omega)⟩) (fun _ _ => rfl) (fun v hv => hk.cell hv nD), ⟨h.ok.size, hb, h.ok.safe, h.ok.wait⟩⟩
/-- A sector's bytes are others. -/
def setNow (s : St) (i : Nat) (f : Int → Int) : St := { s with now := fun p => if 512 * i ≤ p ∧ p < 512 * i + 512 then f (p - 512 * i) else s.now p }
theorem Dsk.nowRow (h : Dsk w col D s) {g c : Nat} (hD : w.cell? ⟨D, 0, none⟩ = some (.slice (some ⟨g, 0, none⟩) (512 * s.size) c)) : OwnRow w (cl col 2) 5 1 (.slice (some ⟨g, 0, none⟩) (512 * s.size) c) (512 * s.size) (byF s.now (512 * s.size)) := by
  obtain ⟨q, c', h1, h2⟩ := h.now
  rw [hD] at h1
  cases h1
  exact h2
theorem c64 (h : Dsk w col D s) {i : Nat} (hi : i < s.size) {g c : Nat} (hD : w.cell? ⟨D, 0, none⟩ = some (.slice (some ⟨g, 0, none⟩) (512 * s.size) c)) (fill : Int) (hf : isByte fill) :
    Rets Try.prog 64 #[.slice (some ⟨g, 512 * i, none⟩) 512 512, .int .i64 i, .int .u8 fill] w fun v w' => v = .tuple #[] ∧ Kp (cl col 2) w w' ∧ Dsk w' col D (setNow s i (strangeF i fill)) := by
  refine ent [_, _, _] Try.func64 ((vcTry64 _ _ _ _ _ w _).mpr ?_)
  unfold VCTry64
  have hs := h.ok.size
  refine ⟨fun j w' => (0 ≤ j ∧ j ≤ 512) ∧ Kp (cl col 2) w w' ∧ OwnRow w' (cl col 2) 5 1 (.slice (some ⟨g, 0, none⟩) (512 * s.size) c) (512 * s.size) (byF (fun p => if 512 * i ≤ p ∧ p < 512 * i + j then strangeF i fill (p - 512 * i) else s.now p) (512 * s.size)), fun j _ => (512 - j).toNat, ⟨by omega, Kp.refl _ _, ?_⟩, ?_⟩
  · rw [byF_congr (g := s.now) (fun k _ => if_neg (by omega))]
    exact h.nowRow hD
  rintro j w1 ⟨hj, k1, r1⟩
  refine bif_dec (fun hlt => ?_) (fun hge => ?_)
  rotate_left
  · refine ⟨_, rfl, rfl, k1, ?_⟩
    have : j = 512 := by omega
    subst this
    refine h.nowSet hD k1 r1 fun p => ?_
    show isByte (if _ then _ else _)
    split
    · exact ⟨Int.emod_nonneg _ (by decide), Int.emod_lt_of_pos _ (by decide)⟩
    · exact h.ok.now p
  obtain ⟨J, rfl⟩ := Int.eq_ofNat_of_zero_le hj.1
  obtain ⟨g', e, hog, hu, hfz, hset⟩ := OwnRow.setAt r1 (i := 512 * i + J) (by omega)
  cases e
  unfold isByte at hf
  refine wr64 (by omega) ?_
  simp only [Wr, wrap8, ptr_some, ad_add, Nat.mul_one, Nat.zero_add, Nat.add_zero, Int.toNat_natCast]
  obtain ⟨r2, k2⟩ := hset (.int .u8 (((fill + 7 * (i : Int) % 256) % 256 + (J : Int) % 256) % 256))
  have hw : IntKind.wrap .i64 ((J : Int) + 1) = J + 1 := wrap64 (by omega)
  rw [hw]
  refine ⟨by omega, hu, hfz, ⟨⟨by omega, k1.trans k2, ?_⟩, by first | omega | (dsimp only; omega)⟩⟩
  rw [byF_set] at r2
  rw [byF_congr (g := fun p => if p = ((512 * i + J : Nat) : Int) then (((fill + 7 * (i : Int) % 256) % 256 + (J : Int) % 256) % 256) else if 512 * (i : Int) ≤ p ∧ p < 512 * i + J then strangeF i fill (p - 512 * i) else s.now p)]
  · exact r2
  · intro k hk
    by_cases e : (k : Int) = ((512 * i + J : Nat) : Int)
    · rw [if_pos e, if_pos (by omega)]
      unfold strangeF
      omega
    · rw [if_neg e]
      by_cases e2 : 512 * (i : Int) ≤ k ∧ (k : Int) < 512 * i + J
      · rw [if_pos e2, if_pos (by omega)]
      · rw [if_neg e2, if_neg (by omega)]
/-- What is safe, up to a sector. -/
def syncTo (s : St) (k : Nat) : St := { s with has := fun j => if j < k then true else s.has j, safe := fun p => if 0 ≤ p ∧ p < 512 * k then s.now p else s.safe p }
def syncSt (s : St) : St := { syncTo s s.size with wait := [] }
theorem syncTo_next' (s : St) (k : Nat) : setSafe (syncTo s k) k (secAt s.now k) = syncTo s (k + 1) := by
  simp only [setSafe, syncTo, secAt, St.mk.injEq, true_and, and_true]
  refine ⟨funext fun j => ?_, funext fun p => ?_⟩
  · by_cases h1 : j = k
    · rw [if_pos h1, if_pos (by omega)]
    · rw [if_neg h1]
      by_cases h2 : j < k
      · rw [if_pos h2, if_pos (by omega)]
      · rw [if_neg h2, if_neg (by omega)]
  · by_cases h1 : 512 * (k : Int) ≤ p ∧ p < 512 * k + 512
    · rw [if_pos h1, if_pos (by omega)]; congr 1; omega
    · rw [if_neg h1]
      by_cases h2 : 0 ≤ p ∧ p < 512 * (k : Int)
      · rw [if_pos h2, if_pos (by omega)]
      · rw [if_neg h2, if_neg (by omega)]
theorem info5e : ∃ i, Try.prog.info? 5 = some i := by obtain ⟨i, h, _⟩ := info5; exact ⟨i, h⟩
/-- A sector's copy, in a block of its own. -/
theorem secCopy (h : Dsk w col D s) {i : Nat} (hi : i < s.size) {g c : Nat} (hD : w.cell? ⟨D, 0, none⟩ = some (.slice (some ⟨g, 0, none⟩) (512 * s.size) c)) {b0 : Addr} {K : Value → World → Prop}
    (hK : ∀ g2 c2 w2, OwnRow w2 (fresh w) 5 1 (.slice (some ⟨g2, 0, none⟩) 512 c2) 512 (byF (secAt s.now i) 512) → Kp none_ w w2 → K (.slice (some ⟨g2, 0, none⟩) 512 c2) w2) :
    Runs Try.prog (Builtin.append_ #[25, 25] 25 #[.slice (some b0) 0 0, .slice (some ⟨g, 512 * i, none⟩) 512 512]) w K := by
  refine lit_append (news := byF (secAt s.now i) 512) Try.underlying25 elem5 (byF_len _ _) (fun j u hj => ?_) (by omega) (by omega) hK
  have hj' : j < 512 := by have := (List.getElem?_eq_some_iff.1 hj).1; rwa [byF_len] at this
  rw [byF_get _ hj'] at hj
  cases hj
  rw [ad_add]
  exact h.sector hi hD j hj'
theorem c16 (h : Dsk w col D s) : Rets Try.prog 16 #[.pointer (some ⟨D, 0, none⟩)] w fun v w' => v = .tuple #[] ∧ Kp (ownC col) w w' ∧ ∃ col', Grow col col' w w' ∧ Dsk w' col' D (syncSt s) := by
  refine ent [_] Try.func16 ((vcTry16 _ w _).mpr ?_)
  unfold VCTry16
  have hs := h.ok.size
  obtain ⟨q0, c0, xs0, t0, _, _⟩ := h.safe
  show cond false _ _
  simp only [cond_false, ptr_some, ad_add, Nat.zero_add, Nat.add_zero]
  have s0 : syncTo s 0 = s := by
    obtain ⟨a, b, c, d, e⟩ := s
    simp only [syncTo, St.mk.injEq, true_and, and_true]
    exact ⟨funext fun j => if_neg (by omega), funext fun p => if_neg (by omega)⟩
  refine ⟨_, _, _, t0, fun i w' => ∃ k : Nat, i = k ∧ k ≤ s.size ∧ Kp (ownC col) w w' ∧ ∃ col', Grow col col' w w' ∧ Dsk w' col' D (syncTo s k), fun i _ => (s.size - i).toNat, ⟨0, rfl, by omega, Kp.refl _ _, col, Grow.refl h.lt (Nat.le_refl _), by rw [s0]; exact h⟩, ?_⟩
  rintro i w1 ⟨k, rfl, hk, k1, col1, gr1, h1⟩
  refine bif_dec (fun hlt => ?_) (fun hge => ?_)
  rotate_left
  · -- nothing waits
    have : k = s.size := by omega
    subst this
    obtain ⟨q4, c4, ys, u1, u2, u3⟩ := h1.wait
    have hd := h1.dlt
    have kD : Kp (one_ D) w1 (w1.setCell ⟨D, 2, none⟩ (.slice none 0 0)) := Kp.setCell (S := one_ D) (x := ⟨D, 2, none⟩) (Kp.refl (one_ D) w1) _ (.inl rfl)
    have ne : ∀ i c, one_ D i → c ≠ 1 → col1 i ≠ c := fun i c hi hc => by have e : i = D := hi; rw [e, h1.colD]; omega
    have cD : ∀ o v, o ≠ 2 → w1.cell? ⟨D, o, none⟩ = some v → (w1.setCell ⟨D, 2, none⟩ (.slice none 0 0)).cell? ⟨D, o, none⟩ = some v := fun o v ho hv => by rw [cell_set_off _ (Ne.symm ho)]; exact hv
    have sz : (w1.setCell ⟨D, 2, none⟩ (.slice none 0 0)).heap.size = w1.heap.size := by simp [World.setCell]
    refine ⟨⟨_, u1⟩, h1.frz 2, _, rfl, rfl, k1.then kD (fun i hi hh => ?_), col1, ⟨gr1.1, fun i hi => by rw [sz]; exact gr1.2 i hi⟩, ?_⟩
    · have e : i = D := hh
      show col i ≠ 0
      rw [← gr1.1 i hi, e, h1.colD]
      omega
    · exact ⟨h1.colD, fun i hi => by rw [sz]; exact h1.lt i hi, fun o => by rw [frozen_set]; exact h1.frz o, h1.nowK kD (fun i _ hi => ne i 2 hi (by omega)) (fun _ _ => rfl) (cD 0 · (by omega)), h1.safeK kD (fun i _ hi => ⟨ne i 3 hi (by omega), ne i 5 hi (by omega)⟩) (fun _ _ => rfl) (cD 1 · (by omega)), ⟨none, 0, [], cell_set_same _ u1, OwnRow.nil _ _ _ _, fun k e he => by simp [syncSt] at he⟩, ⟨h1.ok.size, h1.ok.now, h1.ok.safe, fun e he => by simp [syncSt] at he⟩⟩
  obtain ⟨q1, c1, xs, t1, t2, t3⟩ := h1.safe
  have hki : k < (syncTo s k).size := by show k < s.size; omega
  obtain ⟨qn, cn, n1, n2⟩ := h1.now
  obtain ⟨g, cur, rfl, _, hgc, _, hcn, _⟩ := n2.parts (by omega)
  -- the round's end
  have fin : ∀ w2 g2 c2, Kp none_ w1 w2 → OwnRow w2 (fresh w1) 5 1 (.slice (some ⟨g2, 0, none⟩) 512 c2) 512 (byF (secAt s.now k) 512) →
      w2.cell? ⟨D, 1, none⟩ = some (.slice q1 s.size c1) ∧ (0 ≤ (k : Int) ∧ (k : Int) < (s.size : Int)) ∧ Ptr q1 fun a27 => (∃ v28, w2.cell? ((a27.add ((k : Int).toNat * 1)).add 0) = some v28) ∧ w2.frozen? ((a27.add ((k : Int).toNat * 1)).add 0) = false ∧
        Wr .i64 ((k : Int) + 1) fun i29 => (∃ k' : Nat, i29 = k' ∧ k' ≤ s.size ∧ Kp (ownC col) w (w2.setCell ((a27.add ((k : Int).toNat * 1)).add 0) (.slice (some ⟨g2, 0, none⟩) 512 c2)) ∧ ∃ col', Grow col col' w (w2.setCell ((a27.add ((k : Int).toNat * 1)).add 0) (.slice (some ⟨g2, 0, none⟩) 512 c2)) ∧ Dsk (w2.setCell ((a27.add ((k : Int).toNat * 1)).add 0) (.slice (some ⟨g2, 0, none⟩) 512 c2)) col' D (syncTo s k')) ∧
          (s.size - i29).toNat < (s.size - (k : Int)).toNat := by
    intro w2 g2 c2 k2 r2
    obtain ⟨q', c', x1, g', rfl, x2, x3, x4, col2, x5, x6⟩ := setSafeK h1 hki (f := secAt s.now k) (fun j => h.ok.now _) k2 r2
    have e := x1.symm.trans (k2.cell0 t1)
    cases e
    rw [syncTo_next'] at x6
    simp only [ptr_some, ad_add, Nat.mul_one, Nat.zero_add, Nat.add_zero, Int.toNat_natCast]
    refine ⟨x1, by omega, x2, x3, wr64 (by omega) ⟨⟨k + 1, by omega, by omega, k1.then x4 (fun i hi hh => ?_), col2, gr1.trans x5 k1.size, x6⟩, by omega⟩⟩
    have hh : col1 i ≠ 0 := hh
    show col i ≠ 0
    rw [← gr1.1 i hi]
    exact hh
  have lit := fun (w2 : World) => lit_run (P := Try.prog) w2 Try.underlying25 info5e
  refine ⟨_, _, _, t1, ⟨_, _, lit w1.drew, _, _, _, rfl, (((Kp.refl none_ w1.drew).alloc _ _).keeps0), ?_⟩, ?_⟩
  · have ka : Kp none_ w1 (w1.drew.alloc (.cells #[] 5)) := (Kp.refl none_ w1).drew.alloc _ _
    have h2 := h1.kp0 ka
    refine ⟨cell_alloc _ t1, (c62 h2 k hki).mono ?_⟩
    rintro v wx ⟨⟨g', c', y1, y2, _, rfl⟩, e⟩
    obtain rfl := e.symm
    refine ⟨_, _, _, rfl, (Kp.refl none_ _).keeps0, ka.cell0 t1, secCopy h2 hki y1 fun g2 c2 w2 r2 k2 => ?_⟩
    obtain ⟨f1, f2⟩ := fin w2 g2 c2 (ka.trans k2) (r2.mono fun i hi _ => Nat.le_trans ka.size hi)
    exact ⟨_, _, _, rfl, k2.keeps0, f1, f2⟩
  · have h2 := h1.drew
    refine (c62 h2 k hki).mono ?_
    rintro v wx ⟨⟨g', c', y1, y2, _, rfl⟩, e⟩
    obtain rfl := e.symm
    have ka : Kp none_ w1.drew (w1.drew.alloc (.cells #[] 5)) := (Kp.refl none_ w1.drew).alloc _ _
    have h3 := h2.kp0 ka
    refine ⟨_, _, _, rfl, (Kp.refl none_ _).keeps0, t1, _, _, lit w1.drew, _, _, _, rfl, ka.keeps0, ka.cell0 t1, secCopy h3 hki (ka.cell0 y1) fun g2 c2 w2 r2 k2 => ?_⟩
    obtain ⟨f1, f2⟩ := fin w2 g2 c2 (((Kp.refl none_ w1).drew.trans ka).trans k2) (r2.mono fun i hi _ => Nat.le_trans ka.size hi)
    exact ⟨_, _, _, rfl, k2.keeps0, f1, f2⟩
end
end Go.Proofs.Ytlgkcbdpaffigaa
