import Derived.Test.YtlgkcbdpaffigaaBc
namespace Go.Proofs.Ytlgkcbdpaffigaa
open Go Go.SX Go.Proofs
set_option maxRecDepth 100000
set_option linter.unusedVariables false
set_option linter.unusedSimpArgs false
section
variable {w w' : World} {col col' : Col} {D : Nat} {s : St} {S : Nat → Prop}
/-- An element of a row of one's own is set. -/
theorem OwnRow.setAt {own : Nat → Prop} {e : TypeId} {q : Option Addr} {n c : Nat} {xs : List Value} (h : OwnRow w own e 1 (.slice q n c) n xs) {i : Nat} (hi : i < n) :
    ∃ g, q = some ⟨g, 0, none⟩ ∧ own g ∧ (∃ u, w.cell? ⟨g, i, none⟩ = some u) ∧ w.frozen? ⟨g, i, none⟩ = false ∧ ∀ v, OwnRow (w.setCell ⟨g, i, none⟩ v) own e 1 (.slice q n c) n (xs.set i v) ∧ Kp own w (w.setCell ⟨g, i, none⟩ v) := by
  obtain ⟨g, cur, rfl, _, ho, hg, hnc, hcm, hcs, ht⟩ := h.parts (by omega)
  have hxl : xs.length = n := by have := h.1; omega
  refine ⟨g, rfl, ho, ⟨cur[i]'(by omega), ?_⟩, ?_, fun v => ⟨⟨by simp [hxl], .inr ⟨g, c, cur.setIfInBounds i v, rfl, ho, heap_setCell_same w g i cur e v hg, hnc, hcm, by simp [hcs], ?_⟩⟩, Kp.setCell (Kp.refl own w) v (.inl ho)⟩⟩
  · simp only [World.cell?, hg]
    exact Array.getElem?_eq_getElem _
  · simp only [World.frozen?, hg]
    simp
  · rw [← ht, Nat.mul_one]
    simp only [Array.toList_setIfInBounds, List.take_set]
/-- A sector's bytes, where the slice says. -/
theorem Dsk.sector (h : Dsk w col D s) {i : Nat} (hi : i < s.size) {g c : Nat} (hg : w.cell? ⟨D, 0, none⟩ = some (.slice (some ⟨g, 0, none⟩) (512 * s.size) c)) : ∀ j : Nat, j < 512 → w.cell? ⟨g, 512 * i + j, none⟩ = some (.int .u8 (secAt s.now i j)) := by
  intro j hj
  obtain ⟨q1, c1, n1, n2⟩ := h.now
  rw [hg] at n1
  cases n1
  obtain ⟨a, e, ha⟩ := n2.at (j := 512 * i + j) (u := .int .u8 (s.now ((512 * i + j : Nat) : Int))) (byF_get _ (by omega))
  cases e
  rw [ad_add, Nat.zero_add] at ha
  rw [ha]
  unfold secAt
  congr 3
/-- What 'strange' says. -/
def strangeF (i : Nat) (fill : Int) (j : Int) : Int := (fill + 7 * i + j) % 256
theorem wrap8 (z : Int) : IntKind.wrap .u8 z = z % 256 := by simp [IntKind.wrap, IntKind.bits, IntKind.signed]
/-- What is safe of one more sector. -/
def setSafe (s : St) (i : Nat) (f : Int → Int) : St := { s with has := fun j => if j = i then true else s.has j, safe := fun p => if 512 * i ≤ p ∧ p < 512 * i + 512 then f (p - 512 * i) else s.safe p }
theorem setSafeK (h : Dsk w col D s) {i : Nat} (hi : i < s.size) {f : Int → Int} (hf : ∀ j, isByte (f j)) {w2 : World} (k2 : Kp none_ w w2) {g2 c2 : Nat} (hrow : OwnRow w2 (fresh w) 5 1 (.slice (some ⟨g2, 0, none⟩) 512 c2) 512 (byF f 512)) :
    ∃ q c, w2.cell? ⟨D, 1, none⟩ = some (.slice q s.size c) ∧ ∃ g, q = some ⟨g, 0, none⟩ ∧ (∃ u, w2.cell? ⟨g, i, none⟩ = some u) ∧ w2.frozen? ⟨g, i, none⟩ = false ∧
      Kp (ownC col) w (w2.setCell ⟨g, i, none⟩ (.slice (some ⟨g2, 0, none⟩) 512 c2)) ∧ ∃ col', Grow col col' w (w2.setCell ⟨g, i, none⟩ (.slice (some ⟨g2, 0, none⟩) 512 c2)) ∧ Dsk (w2.setCell ⟨g, i, none⟩ (.slice (some ⟨g2, 0, none⟩) 512 c2)) col' D (setSafe s i f) := by
  obtain ⟨q, c, xs, t1, t2, t3⟩ := h.safe
  have hD := h.dlt
  have z2 := k2.size
  obtain ⟨g, rfl, hg, hu, hfz, hset⟩ := OwnRow.setAt (t2.kp k2 fun _ _ _ _ _ => id) hi
  have hgc : col g = 3 := hg
  have gl : g < w.heap.size := h.lt g (by omega)
  have hfr : fresh w g2 ∧ g2 < w2.heap.size ∧ 512 ≤ c2 := by
    obtain ⟨g', cur, e, _, ho, hh, hc', _⟩ := hrow.parts (by omega)
    cases e
    exact ⟨ho, (Array.getElem?_eq_some_iff.1 hh).1, hc'⟩
  have hf2 : w.heap.size ≤ g2 := hfr.1
  refine ⟨_, c, k2.cell0 t1, g, rfl, hu, hfz, ?_⟩
  obtain ⟨r1, k3⟩ := hset (.slice (some ⟨g2, 0, none⟩) 512 c2)
  have s3 : (w2.setCell ⟨g, i, none⟩ (.slice (some ⟨g2, 0, none⟩) 512 c2)).heap.size = w2.heap.size := by simp [World.setCell]
  have k13 : Kp (one_ g) w (w2.setCell ⟨g, i, none⟩ (.slice (some ⟨g2, 0, none⟩) 512 c2)) := Kp.setCell (x := ⟨g, i, none⟩) (k2.mono fun _ _ h => h.elim) _ (.inl rfl)
  have k23 : Kp (one_ g) w2 (w2.setCell ⟨g, i, none⟩ (.slice (some ⟨g2, 0, none⟩) 512 c2)) := Kp.setCell (S := one_ g) (x := ⟨g, i, none⟩) (Kp.refl (one_ g) w2) _ (.inl rfl)
  let col' : Col := fun j => if j = g2 then 5 else col j
  have hc' : ∀ j, j < w.heap.size → col' j = col j := fun j hj => if_neg (by omega)
  have hDg : D ≠ g := fun e => by have h1 := h.colD; rw [e, hgc] at h1; omega
  have hd : ∀ o v, w.cell? ⟨D, o, none⟩ = some v → (w2.setCell ⟨g, i, none⟩ (.slice (some ⟨g2, 0, none⟩) 512 c2)).cell? ⟨D, o, none⟩ = some v := fun o v hv => k13.cell hv (fun e => hDg e)
  have ne : ∀ j k, one_ g j → k ≠ 3 → col j ≠ k := fun j k e hk => by have e : j = g := e; rw [e, hgc]; omega
  refine ⟨k13.mono fun j _ hj => by have e : j = g := hj; show col j ≠ 0; rw [e, hgc]; omega, col', ⟨hc', fun j hj => ?_⟩, ?_⟩
  · by_cases e : j = g2
    · rw [s3, e]; exact hfr.2.1
    · have : col j ≠ 0 := by simpa [col', e] using hj
      have := h.lt j this
      omega
  refine ⟨(hc' D hD).trans h.colD, fun j hj => ?_, fun o => by rw [frozen_set, k2.frz ⟨D, o, none⟩ hD]; exact h.frz o, h.nowK k13 (fun j _ e => ne j 2 e (by omega)) hc' (hd 0), ⟨_, c, xs.set i (.slice (some ⟨g2, 0, none⟩) 512 c2), hd 1 _ t1, ?_, fun j hj => ?_⟩, ?_, ⟨h.ok.size, h.ok.now, fun p => ?_, h.ok.wait⟩⟩
  · by_cases e : j = g2
    · rw [s3, e]; exact hfr.2.1
    · have : col j ≠ 0 := by simpa [col', e] using hj
      have := h.lt j this
      omega
  · refine r1.mono fun j hj hl => ?_
    have hj' : col j = 3 := hj
    have := h.lt j (by omega)
    exact (hc' j this).trans hj'
  · by_cases e : j = i
    · subst e
      refine ⟨fun hh => ?_, fun _ => ⟨⟨g2, 0, none⟩, c2, ?_, hfr.2.2, ?_, fun k hk => ?_⟩⟩
      · simp [setSafe] at hh
      · have hxl : xs.length = s.size := by have := t2.1; omega
        rw [List.getElem?_set_self (by omega)]
      · show col' g2 = 5
        exact if_pos rfl
      · obtain ⟨a, ea, ha⟩ := hrow.at (j := k) (u := .int .u8 (f k)) (byF_get _ hk)
        cases ea
        have hgg : g2 ≠ g := by omega
        have : (w2.setCell ⟨g, j, none⟩ (.slice (some ⟨g2, 0, none⟩) 512 c2)).cell? ((⟨g2, 0, none⟩ : Addr).add k) = some (.int .u8 (f k)) := k23.cell ha (by rw [add_block]; exact fun e => hgg e)
        rw [this]
        have : secAt (setSafe s j f).safe j k = f k := by
          unfold secAt setSafe
          dsimp only
          rw [if_pos (by omega)]
          congr 1; omega
        rw [this]
    · have := t3 j hj
      have e1 : (setSafe s i f).has j = s.has j := if_neg e
      rw [e1, List.getElem?_set_ne (fun h => e h.symm)]
      refine ⟨this.1, fun hh => ?_⟩
      obtain ⟨a, c', x1, x2, x3⟩ := this.2 hh
      refine ⟨a, c', x1, x2, ?_⟩
      have x4 := Sec.kpc (col' := col') x3 k13 (fun j _ e => ne j 5 e (by omega)) hc'
      refine ⟨x4.1, fun k hk => ?_⟩
      rw [x4.2 k hk]
      have : secAt (setSafe s i f).safe j k = secAt s.safe j k := by
        unfold secAt setSafe
        dsimp only
        rw [if_neg (by omega)]
      rw [this]
  · exact h.waitK k13 (fun j _ e => ⟨ne j 4 e (by omega), ne j 5 e (by omega)⟩) hc' (hd 2)
  · show isByte (if _ then _ else _)
    split
    · exact hf _
    · exact h.ok.safe p
end
end Go.Proofs.Ytlgkcbdpaffigaa
