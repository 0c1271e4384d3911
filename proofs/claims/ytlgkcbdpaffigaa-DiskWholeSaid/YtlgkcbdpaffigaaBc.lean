import Derived.Test.YtlgkcbdpaffigaaBb
namespace Go.Proofs.Ytlgkcbdpaffigaa
open Go Go.SX Go.Proofs
set_option maxRecDepth 100000
set_option linter.unusedVariables false
set_option linter.unusedSimpArgs false
/-- A row's new block gets the row's colour. -/
theorem recolor {w w' : World} {col : Col} {k : Nat} {e : TypeId} {size : Nat} {v : Value} {n : Nat} {xs : List Value} (lt : ∀ i, col i ≠ 0 → i < w.heap.size) (hs : w.heap.size ≤ w'.heap.size) (h : OwnRow w' (fun i => cl col k i ∨ fresh w i) e size v n xs) :
    ∃ col', (∀ i, i < w.heap.size → col' i = col i) ∧ (∀ i, col' i ≠ 0 → i < w.heap.size ∨ (col' i = k ∧ i < w'.heap.size)) ∧ OwnRow w' (cl col' k) e size v n xs := by
  rcases h.2 with ⟨h1, h2⟩ | ⟨g, cap, cur, h1, h2, h3, h4⟩
  · exact ⟨fun i => if i < w.heap.size then col i else 0, fun i hi => if_pos hi, fun i hi => by by_cases h : i < w.heap.size; exact .inl h; simp [h] at hi, h.1, .inl ⟨h1, h2⟩⟩
  · have gl := (Array.getElem?_eq_some_iff.1 h3).1
    refine ⟨fun i => if i < w.heap.size then col i else if i = g then k else 0, fun i hi => if_pos hi, fun i hi => ?_, h.1, .inr ⟨g, cap, cur, h1, ?_, h3, h4⟩⟩
    · by_cases h : i < w.heap.size
      · exact .inl h
      · by_cases e : i = g
        · subst e
          exact .inr ⟨by simp [h], gl⟩
        · simp [h, e] at hi
    · show (if g < w.heap.size then col g else if g = g then k else 0) = k
      by_cases hg : g < w.heap.size
      · rw [if_pos hg]
        rcases h2 with h2 | h2
        · exact h2
        · unfold fresh at h2; omega
      · rw [if_neg hg, if_pos rfl]
section
variable {w w' : World} {col col' : Col} {D : Nat} {s : St} {S : Nat → Prop}
theorem OwnRow.kpc {k : Nat} {e : TypeId} {size : Nat} {v : Value} {n : Nat} {xs : List Value} (h : OwnRow w (cl col k) e size v n xs) (hk : Kp S w w') (hs : ∀ i, i < w.heap.size → S i → col i ≠ k) (hc : ∀ i, i < w.heap.size → col' i = col i) : OwnRow w' (cl col' k) e size v n xs := by
  rcases h.2 with ⟨h1, h2⟩ | ⟨g, cap, cur, h1, h2, h3, h4⟩
  · exact ⟨h.1, .inl ⟨h1, h2⟩⟩
  · have gl := (Array.getElem?_eq_some_iff.1 h3).1
    exact ⟨h.1, .inr ⟨g, cap, cur, h1, (hc g gl).trans h2, (hk.same g gl fun hh => hs g gl hh h2).trans h3, h4⟩⟩
theorem Sec.kpc {a : Addr} {f : Int → Int} (h : Sec w col a f) (hk : Kp S w w') (hs : ∀ i, i < w.heap.size → S i → col i ≠ 5) (hc : ∀ i, i < w.heap.size → col' i = col i) : Sec w' col' a f := by
  have gl : a.block < w.heap.size := by have := cell_lt (h.2 0 (by omega)); rwa [add_block] at this
  exact ⟨(hc _ gl).trans h.1, fun j hj => hk.cell (h.2 j hj) (by rw [add_block]; exact fun hh => hs _ gl hh h.1)⟩
theorem Dsk.nowK (h : Dsk w col D s) (hk : Kp S w w') (hs : ∀ i, i < w.heap.size → S i → col i ≠ 2) (hc : ∀ i, i < w.heap.size → col' i = col i) (hd : ∀ v, w.cell? ⟨D, 0, none⟩ = some v → w'.cell? ⟨D, 0, none⟩ = some v) :
    ∃ q c, w'.cell? ⟨D, 0, none⟩ = some (.slice q (512 * s.size) c) ∧ OwnRow w' (cl col' 2) 5 1 (.slice q (512 * s.size) c) (512 * s.size) (byF s.now (512 * s.size)) := by
  obtain ⟨q, c, h1, h2⟩ := h.now
  exact ⟨q, c, hd _ h1, OwnRow.kpc h2 hk hs hc⟩
theorem Dsk.safeK (h : Dsk w col D s) (hk : Kp S w w') (hs : ∀ i, i < w.heap.size → S i → col i ≠ 3 ∧ col i ≠ 5) (hc : ∀ i, i < w.heap.size → col' i = col i) (hd : ∀ v, w.cell? ⟨D, 1, none⟩ = some v → w'.cell? ⟨D, 1, none⟩ = some v) :
    ∃ q c xs, w'.cell? ⟨D, 1, none⟩ = some (.slice q s.size c) ∧ OwnRow w' (cl col' 3) 25 1 (.slice q s.size c) s.size xs ∧
    ∀ i, i < s.size → (s.has i = false → xs[i]? = some (.slice none 0 0)) ∧ (s.has i = true → ∃ a c', xs[i]? = some (.slice (some a) 512 c') ∧ 512 ≤ c' ∧ Sec w' col' a (secAt s.safe i)) := by
  obtain ⟨q, c, xs, h1, h2, h3⟩ := h.safe
  refine ⟨q, c, xs, hd _ h1, OwnRow.kpc h2 hk (fun i hi hh => (hs i hi hh).1) hc, fun i hi => ⟨(h3 i hi).1, fun hh => ?_⟩⟩
  obtain ⟨a, c', x1, x2, x3⟩ := (h3 i hi).2 hh
  exact ⟨a, c', x1, x2, Sec.kpc x3 hk (fun i hi hh => (hs i hi hh).2) hc⟩
theorem Dsk.waitK (h : Dsk w col D s) (hk : Kp S w w') (hs : ∀ i, i < w.heap.size → S i → col i ≠ 4 ∧ col i ≠ 5) (hc : ∀ i, i < w.heap.size → col' i = col i) (hd : ∀ v, w.cell? ⟨D, 2, none⟩ = some v → w'.cell? ⟨D, 2, none⟩ = some v) :
    ∃ q c xs, w'.cell? ⟨D, 2, none⟩ = some (.slice q s.wait.length c) ∧ OwnRow w' (cl col' 4) 118 2 (.slice q s.wait.length c) s.wait.length xs ∧
    ∀ k e, s.wait[k]? = some e → ∃ a c', xs[k * 2]? = some (.int .i64 e.1) ∧ xs[k * 2 + 1]? = some (.slice (some a) 512 c') ∧ 512 ≤ c' ∧ Sec w' col' a (secAt e.2 e.1) := by
  obtain ⟨q, c, xs, h1, h2, h3⟩ := h.wait
  refine ⟨q, c, xs, hd _ h1, OwnRow.kpc h2 hk (fun i hi hh => (hs i hi hh).1) hc, fun k e he => ?_⟩
  obtain ⟨a, c', x0, x1, x2, x3⟩ := h3 k e he
  exact ⟨a, c', x0, x1, x2, Sec.kpc x3 hk (fun i hi hh => (hs i hi hh).2) hc⟩
theorem Dsk.dlt (h : Dsk w col D s) : D < w.heap.size := h.lt D (by rw [h.colD]; omega)
theorem info5 : ∃ i, Try.prog.info? 5 = some i ∧ i.zero = some (.int .u8 0) ∧ i.size = 1 ∧ i.bytes = 1 := by
  have h : (Try.prog.info? 5).map (fun i => (i.zero, i.size, i.bytes)) = some (some (.int .u8 0), 1, 1) := by kernel_rfl
  obtain ⟨i, hi, hh⟩ := Option.map_eq_some_iff.1 h
  simp only [Prod.mk.injEq] at hh
  exact ⟨i, hi, hh⟩
theorem info25 : ∃ i, Try.prog.info? 25 = some i ∧ i.zero = some (.slice none 0 0) ∧ i.size = 1 ∧ i.bytes = 24 := by
  have h : (Try.prog.info? 25).map (fun i => (i.zero, i.size, i.bytes)) = some (some (.slice none 0 0), 1, 24) := by kernel_rfl
  obtain ⟨i, hi, hh⟩ := Option.map_eq_some_iff.1 h
  simp only [Prod.mk.injEq] at hh
  exact ⟨i, hi, hh⟩
theorem elem5 : elemOk Try.prog 5 1 = true := by kernel_rfl
theorem elem25 : elemOk Try.prog 25 1 = true := by kernel_rfl
theorem elem118 : elemOk Try.prog 118 2 = true := by kernel_rfl
/-- A disk, grown. -/
def growSt (s : St) (m : Nat) : St := if s.size < m then { s with size := m, now := fun p => if p < 512 * s.size then s.now p else 0, has := fun i => if i < s.size then s.has i else false } else s
theorem byF_grow (f : Int → Int) (n k : Nat) : byF (fun p => if p < (n : Int) then f p else 0) (n + k) = byF f n ++ List.replicate k (.int .u8 0) := by
  apply List.ext_getElem
  · simp [byF]
  · intro i h1 h2
    simp only [byF_len] at h1
    by_cases h : i < n
    · rw [List.getElem_append_left (by rw [byF_len]; exact h)]
      simp only [byF, List.getElem_map, List.getElem_range]
      rw [if_pos (by omega)]
    · rw [List.getElem_append_right (by rw [byF_len]; omega)]
      simp only [byF, List.getElem_map, List.getElem_range, List.getElem_replicate]
      rw [if_neg (by omega)]
theorem c66 (h : Dsk w col D s) (m : Nat) (hm : m ≤ 4096) : Rets Try.prog 66 #[.pointer (some ⟨D, 0, none⟩), .int .i64 m] w fun v w' =>
    v = .tuple #[] ∧ Kp (ownC col) w w' ∧ ∃ col', Grow col col' w w' ∧ Dsk w' col' D (growSt s m) := by
  refine ent [_, _] Try.func66 ((vcTry66 _ _ w _).mpr ?_)
  unfold VCTry66
  have hs := h.ok.size
  refine (c18 h).mono ?_
  rintro v wx ⟨rfl, e⟩
  obtain rfl := e.symm
  refine ⟨_, rfl, (Kp.refl none_ _).keeps0, wr64 (by omega) (bif_dec (fun hlt => ?_) (fun hge => ?_))⟩
  rotate_left
  · refine ⟨_, rfl, rfl, Kp.refl _ _, col, Grow.refl h.lt (Nat.le_refl _), ?_⟩
    unfold growSt
    rw [if_neg (by omega)]
    exact h
  obtain ⟨k, hk⟩ : ∃ k : Nat, m = s.size + k := ⟨m - s.size, by omega⟩
  have hk0 : 0 < k := by omega
  subst hk
  obtain ⟨q1, c1, n1, n2⟩ := h.now
  simp only [ptr_some, ad_add, Nat.zero_add, Nat.add_zero]
  have e1 : (((s.size + k : Nat) : Int) - s.size) * 512 = ((512 * k : Nat) : Int) := by omega
  have e2 : ((s.size + k : Nat) : Int) - s.size = (k : Int) := by omega
  refine ⟨_, _, _, n1, wr64 (by omega) ?_⟩
  rw [e1]
  refine zeros_own (own := cl col 2) (size := 1) (bytes := 1) (z := .int .u8 0) Try.underlying25 Try.underlying3 info5 rfl (by omega) (by omega) (fun u hu => ?_) n2 (by omega) (by omega) (fun q2 c2 w2 r2 k2 => ?_)
  · rw [zerosL_one rfl] at hu
    rw [List.eq_of_mem_replicate hu]
    simp [Value.oneCell']
  have z2 := k2.size
  have hD := h.dlt
  have hD2 : ¬ cl col 2 D := fun hh => by have := h.colD; unfold cl at hh; omega
  have fz2 : ∀ o, w2.frozen? ⟨D, o, none⟩ = false := fun o => (k2.frz ⟨D, o, none⟩ hD).trans (h.frz o)
  refine ⟨_, _, _, rfl, k2.keeps0, ⟨_, k2.cell n1 hD2⟩, fz2 0, ?_⟩
  rw [zerosL_one rfl, ← byF_grow] at r2
  have r2' : OwnRow w2 (fun i => cl col 2 i ∨ fresh w i) 5 1 (.slice q2 (512 * (s.size + k)) c2) (512 * (s.size + k)) (byF (fun p => if p < ((512 * s.size : Nat) : Int) then s.now p else 0) (512 * (s.size + k))) := by
    rw [Nat.mul_add]; exact r2
  rw [← Nat.mul_add]
  obtain ⟨col2, g1, g2, r3⟩ := recolor h.lt z2 r2'
  have kD : Kp (one_ D) w2 (w2.setCell ⟨D, 0, none⟩ (.slice q2 (512 * (s.size + k)) c2)) := Kp.setCell (S := one_ D) (x := ⟨D, 0, none⟩) (Kp.refl (one_ D) w2) _ (.inl rfl)
  have k23 : Kp (fun i => col i = 2 ∨ i = D) w (w2.setCell ⟨D, 0, none⟩ (.slice q2 (512 * (s.size + k)) c2)) := (k2.mono fun _ _ h => .inl h).trans (kD.mono fun _ _ h => .inr h)
  have cD0 : (w2.setCell ⟨D, 0, none⟩ (.slice q2 (512 * (s.size + k)) c2)).cell? ⟨D, 0, none⟩ = some (.slice q2 (512 * (s.size + k)) c2) := cell_set_same _ (k2.cell n1 hD2)
  have cDo : ∀ o v, o ≠ 0 → w.cell? ⟨D, o, none⟩ = some v → (w2.setCell ⟨D, 0, none⟩ (.slice q2 (512 * (s.size + k)) c2)).cell? ⟨D, o, none⟩ = some v := fun o v ho hv => by rw [cell_set_off _ (Ne.symm ho)]; exact k2.cell hv hD2
  have fz3 : ∀ o, (w2.setCell ⟨D, 0, none⟩ (.slice q2 (512 * (s.size + k)) c2)).frozen? ⟨D, o, none⟩ = false := fun o => by rw [frozen_set]; exact fz2 o
  have s3 : (w2.setCell ⟨D, 0, none⟩ (.slice q2 (512 * (s.size + k)) c2)).heap.size = w2.heap.size := by simp [World.setCell]
  have ne : ∀ i c, (col i = 2 ∨ i = D) → c ≠ 1 → c ≠ 2 → col i ≠ c := fun i c hi h1 h2 => by
    rcases hi with hi | hi
    · omega
    · rw [hi, h.colD]; omega
  obtain ⟨q3, c3, xs, t1, t2, t3⟩ := h.safeK (col' := col2) k23 (fun i _ hh => ⟨ne i 3 hh (by omega) (by omega), ne i 5 hh (by omega) (by omega)⟩) g1 (cDo 1 · (by omega))
  have hw3 := h.waitK (col' := col2) k23 (fun i _ hh => ⟨ne i 4 hh (by omega) (by omega), ne i 5 hh (by omega) (by omega)⟩) g1 (cDo 2 · (by omega))
  have r3D := OwnRow.kpc (col' := col2) r3 kD (fun i _ hh => by have e : i = D := hh; rw [e, g1 D hD, h.colD]; omega) (fun _ _ => rfl)
  generalize w2.setCell ⟨D, 0, none⟩ (.slice q2 (512 * (s.size + k)) c2) = w3 at *
  have lt2 : ∀ i, col2 i ≠ 0 → i < w3.heap.size := fun i hi => by rcases g2 i hi with h | h <;> omega
  refine ⟨_, _, _, t1, ?_⟩
  rw [e2]
  refine zeros_own (own := cl col2 3) (size := 1) (bytes := 24) (z := .slice none 0 0) Try.underlying26 Try.underlying3 info25 rfl (by omega) (by omega) (fun u hu => ?_) t2 (by omega) (by omega) (fun q4 c4 w4 r4 k4 => ?_)
  · rw [zerosL_one rfl] at hu
    rw [List.eq_of_mem_replicate hu]
    simp [Value.oneCell']
  have z4 := k4.size
  have hD3 : D < w3.heap.size := by omega
  have hcD : col2 D = 1 := (g1 D hD).trans h.colD
  have hD4 : ¬ cl col2 3 D := fun hh => by unfold cl at hh; omega
  have fz4 : ∀ o, w4.frozen? ⟨D, o, none⟩ = false := fun o => (k4.frz ⟨D, o, none⟩ hD3).trans (fz3 o)
  refine ⟨_, _, _, rfl, k4.keeps0, ⟨_, k4.cell t1 hD4⟩, fz4 1, ?_⟩
  rw [zerosL_one rfl] at r4
  obtain ⟨col4, g5, g6, r5⟩ := recolor lt2 z4 r4
  have kE : Kp (one_ D) w4 (w4.setCell ⟨D, 1, none⟩ (.slice q4 (s.size + k) c4)) := Kp.setCell (S := one_ D) (x := ⟨D, 1, none⟩) (Kp.refl (one_ D) w4) _ (.inl rfl)
  have k35 : Kp (fun i => col2 i = 3 ∨ i = D) w3 (w4.setCell ⟨D, 1, none⟩ (.slice q4 (s.size + k) c4)) := (k4.mono fun _ _ h => .inl h).trans (kE.mono fun _ _ h => .inr h)
  have ne2 : ∀ i c, (col2 i = 3 ∨ i = D) → c ≠ 1 → c ≠ 3 → col2 i ≠ c := fun i c hi h1 h2 => by
    rcases hi with hi | hi
    · omega
    · rw [hi, hcD]; omega
  have cEo : ∀ o v, o ≠ 1 → w3.cell? ⟨D, o, none⟩ = some v → (w4.setCell ⟨D, 1, none⟩ (.slice q4 (s.size + k) c4)).cell? ⟨D, o, none⟩ = some v := fun o v ho hv => by rw [cell_set_off _ (Ne.symm ho)]; exact k4.cell hv hD4
  have gr : growSt s (s.size + k) = { s with size := s.size + k, now := fun p => if p < 512 * s.size then s.now p else 0, has := fun i => if i < s.size then s.has i else false } := if_pos (by omega)
  have kAll : Kp (ownC col) w (w4.setCell ⟨D, 1, none⟩ (.slice q4 (s.size + k) c4)) := by
    refine (k23.mono fun i _ hi => ?_).then k35 fun i hi hh => ?_
    · rcases hi with hi | hi
      · unfold ownC; omega
      · unfold ownC; rw [hi, h.colD]; omega
    · unfold ownC
      rcases hh with hh | hh
      · rw [g1 i hi] at hh; omega
      · rw [hh, h.colD]; omega
  refine ⟨_, rfl, rfl, kAll, col4, ⟨fun i hi => (g5 i (by omega)).trans (g1 i hi), fun i hi => ?_⟩, ?_⟩
  · have : (w4.setCell ⟨D, 1, none⟩ (.slice q4 (s.size + k) c4)).heap.size = w4.heap.size := by simp [World.setCell]
    rcases g6 i hi with h | h <;> omega
  rw [gr]
  refine ⟨(g5 D hD3).trans hcD, fun i hi => ?_, fun o => by rw [frozen_set]; exact fz4 o, ⟨q2, c2, cEo 0 _ (by omega) cD0, ?_⟩, ⟨q4, c4, xs ++ List.replicate k (.slice none 0 0), cell_set_same _ (k4.cell t1 hD4), OwnRow.kpc r5 kE (fun i _ hh => by have e : i = D := hh; rw [e, g5 D hD3, hcD]; omega) (fun _ _ => rfl), fun i hi => ?_⟩, ?_, ⟨hm, fun p => ?_, h.ok.safe, fun e he => ⟨?_, (h.ok.wait e he).2⟩⟩⟩
  · have : (w4.setCell ⟨D, 1, none⟩ (.slice q4 (s.size + k) c4)).heap.size = w4.heap.size := by simp [World.setCell]
    rcases g6 i hi with h | h <;> omega
  · have e : ((512 * s.size : Nat) : Int) = 512 * (s.size : Int) := by omega
    rw [e] at r3D
    exact OwnRow.kpc r3D k35 (fun i _ hh => ne2 i 2 hh (by omega) (by omega)) g5
  · have hxl : xs.length = s.size := by have := t2.1; omega
    by_cases hi' : i < s.size
    · have := t3 i hi'
      simp only [hi', if_true]
      rw [List.getElem?_append_left (by omega)]
      refine ⟨this.1, fun hh => ?_⟩
      obtain ⟨a, c', x1, x2, x3⟩ := this.2 hh
      exact ⟨a, c', x1, x2, Sec.kpc x3 k35 (fun i _ hh => ne2 i 5 hh (by omega) (by omega)) g5⟩
    · simp only [hi', if_false]
      have hi : i < s.size + k := hi
      refine ⟨fun _ => ?_, fun h => (by cases h)⟩
      rw [List.getElem?_append_right (by omega), List.getElem?_replicate, if_pos (by omega)]
  · obtain ⟨q6, c6, ys, u1, u2, u3⟩ := hw3
    refine ⟨q6, c6, ys, cEo 2 _ (by omega) u1, OwnRow.kpc u2 k35 (fun i _ hh => ne2 i 4 hh (by omega) (by omega)) g5, fun j e he => ?_⟩
    obtain ⟨a, c', x0, x1, x2, x3⟩ := u3 j e he
    exact ⟨a, c', x0, x1, x2, Sec.kpc x3 k35 (fun i _ hh => ne2 i 5 hh (by omega) (by omega)) g5⟩
  · show isByte (if _ then _ else _)
    split
    · exact h.ok.now p
    · unfold isByte; omega
  · have := (h.ok.wait e he).1
    show e.1 < s.size + k
    omega
end
end Go.Proofs.Ytlgkcbdpaffigaa
