import Derived.Test.YtlgkcbdpaffigaaBf
namespace Go.Proofs.Ytlgkcbdpaffigaa
open Go Go.SX Go.Proofs
set_option maxRecDepth 100000
set_option linter.unusedVariables false
set_option linter.unusedSimpArgs false
section
variable {w w' : World} {col col' : Col} {D : Nat} {s : St} {S : Nat → Prop}
/-- What is written. -/
def overF (f b : Int → Int) (at_ : Int) (n : Nat) : Int → Int := fun p => if at_ ≤ p ∧ p < at_ + n then b (p - at_) else f p
/-- So many sectors, from one on, wait. -/
def waits (lo k : Nat) (f : Int → Int) : List (Nat × (Int → Int)) := (List.range k).map fun j => (lo + j, f)
theorem waits_succ (lo k : Nat) (f : Int → Int) : waits lo (k + 1) f = waits lo k f ++ [(lo + k, f)] := by simp [waits, List.range_succ]
def loF (at_ : Int) : Nat := (at_ / 512).toNat
def hiF (at_ : Int) (n : Nat) : Nat := ((at_ + n + 511) / 512).toNat
def writeSt (s : St) (at_ : Int) (n : Nat) (b : Int → Int) : St :=
  { growSt s (hiF at_ n) with now := overF (growSt s (hiF at_ n)).now b at_ n, wait := s.wait ++ waits (loF at_) (hiF at_ n - loF at_) (overF (growSt s (hiF at_ n)).now b at_ n) }
theorem growSt_wait (s : St) (m : Nat) : (growSt s m).wait = s.wait := by unfold growSt; split <;> rfl
theorem growSt_size (s : St) (m : Nat) : (growSt s m).size = max s.size m := by
  unfold growSt
  split
  · show m = _; omega
  · omega
theorem growSt_max (s : St) (m : Nat) : growSt s (max s.size m) = growSt s m := by
  unfold growSt
  by_cases h : s.size < m
  · rw [if_pos h, if_pos (by omega)]
    have : max s.size m = m := by omega
    rw [this]
  · rw [if_neg h, if_neg (by omega)]
theorem c20 (h : Dsk w col D s) {q : Option Addr} {n cp : Nat} {b : Int → Int} (hb : Ints w .u8 q n b) (hby : ∀ i : Int, 0 ≤ i → i < n → isByte (b i)) (hq : 0 < n → ∀ a, q = some a → col a.block = 0) (hl : s.wait.length ≤ 90000) (at_ : Int) :
    Rets Try.prog 20 #[.pointer (some ⟨D, 0, none⟩), .int .i64 at_, .slice q n cp] w fun v w' =>
      v = .int .i64 (if rightF at_ n = true then 0 else 1) ∧ Kp (ownC col) w w' ∧ ∃ col', Grow col col' w w' ∧ Dsk w' col' D (if rightF at_ n = true ∧ n ≠ 0 then writeSt s at_ n b else s) := by
  refine ent [_, _, _] Try.func20 ((vcTry20 _ _ _ _ _ w _).mpr ?_)
  unfold VCTry20
  have hs := h.ok.size
  refine (c65 h at_ n).mono ?_
  rintro v wx ⟨rfl, e⟩
  obtain rfl := e.symm
  refine ⟨_, _, rfl, (Kp.refl none_ _).keeps0, bif_not (fun hr => ?_) (fun hr => ?_)⟩
  · rw [hr]
    exact ⟨_, rfl, rfl, Kp.refl _ _, col, Grow.refl h.lt (Nat.le_refl _), h⟩
  refine bif_eq (fun h0 => ?_) (fun h0 => ?_)
  · have hn0 : n = 0 := by omega
    rw [hr, if_pos rfl, if_neg (fun hh => hh.2 hn0)]
    exact ⟨_, rfl, rfl, Kp.refl _ _, col, Grow.refl h.lt (Nat.le_refl _), h⟩
  have hn0 : n ≠ 0 := by omega
  have hr' := hr
  unfold rightF at hr'
  have hr' := of_decide_eq_true hr'
  rw [hr, if_pos rfl, if_pos rfl, if_pos ⟨rfl, hn0⟩]
  have hneed : needF s at_ n = ((max s.size (hiF at_ n) : Nat) : Int) := by unfold needF hiF; rw [if_neg h0]; omega
  have hhi : hiF at_ n ≤ 4096 := by unfold hiF; omega
  rw [hneed]
  refine (c66 h (max s.size (hiF at_ n)) (by omega)).mono ?_
  rintro v w5 ⟨rfl, k5, col5, gr5, h5⟩
  rw [growSt_max] at h5
  have hsz := growSt_size s (hiF at_ n)
  have hwt := growSt_wait s (hiF at_ n)
  refine ⟨rfl, k5.keeps0, ?_⟩
  unfold writeSt
  generalize growSt s (hiF at_ n) = s1 at *
  have hs1 := h5.ok.size
  have hlo : loF at_ < hiF at_ n ∧ hiF at_ n ≤ s1.size := by unfold loF hiF at *; omega
  have hend : at_ + n ≤ 512 * s1.size := by unfold hiF at hlo; omega
  obtain ⟨q1, c1, n1, n2⟩ := h5.now
  obtain ⟨g, cur, rfl, _, hgc, _, hcn, _⟩ := n2.parts (by omega)
  simp only [ptr_some, ad_add, Nat.zero_add, Nat.add_zero]
  have hb5 : Ints w5 .u8 q n b := hb.kp k5 fun h0 a ha hh => hh (hq h0 a ha)
  obtain ⟨a, rfl, _⟩ := hb5 0 (by omega) (by omega)
  have hmin : (byF b n).length = Nat.min n (512 * s1.size - at_.toNat) := by rw [byF_len]; exact (Nat.min_eq_left (by omega)).symm
  refine ⟨_, _, _, n1, by omega, copy_own (own := cl col5 2) (n := 512 * s1.size) (cs := byF b n) Try.underlying25 (by kernel_rfl) n2 hmin (by rw [byF_len]; omega) (by omega) (fun j v hj => ?_) (byF_one _ _) (fun w6 r6 k6 => ?_)⟩
  · have hj' : j < n := by have := (List.getElem?_eq_some_iff.1 hj).1; rwa [byF_len] at this
    rw [byF_get _ hj'] at hj
    cases hj
    obtain ⟨a', e, hc⟩ := hb5 j (by omega) (by omega)
    cases e
    rw [← hc]
    congr 2
  rw [byF_len, byF_over _ _ _ _ _ (by omega)] at r6
  have hnow : byF (fun p => if ((at_.toNat : Nat) : Int) ≤ p ∧ p < ((at_.toNat : Nat) : Int) + (n : Int) then b (p - ((at_.toNat : Nat) : Int)) else s1.now p) (512 * s1.size) = byF (overF s1.now b at_ n) (512 * s1.size) := by
    have e : ((at_.toNat : Nat) : Int) = at_ := by omega
    rw [e]; rfl
  rw [hnow] at r6
  have hnb : ∀ p, isByte (overF s1.now b at_ n p) := fun p => by
    unfold overF
    split
    · exact hby _ (by omega) (by omega)
    · exact h5.ok.now p
  have h6 := h5.nowSet n1 k6 r6 hnb
  have ko : ∀ {i}, i < w.heap.size → ownC col5 i → ownC col i := fun {i} hi hh => by
    show col i ≠ 0
    rw [← gr5.1 i hi]
    exact hh
  have kw6 : Kp (ownC col) w w6 := k5.then k6 fun i hi hh => ko hi (by have hh : col5 i = 2 := hh; show col5 i ≠ 0; omega)
  have gr6 : Grow col col5 w w6 := ⟨gr5.1, fun i hi => Nat.lt_of_lt_of_le (gr5.2 i hi) k6.size⟩
  have e512 : at_.tdiv 512 = (loF at_ : Nat) := by unfold loF; rw [Int.tdiv_eq_ediv_of_nonneg (by omega)]; omega
  rw [e512]
  refine ⟨_, rfl, k6.keeps0, by omega, wr64 (by omega) ?_⟩
  refine ⟨fun i w' => ∃ k : Nat, i = (loF at_ : Nat) + (k : Int) ∧ k ≤ hiF at_ n - loF at_ ∧ Kp (ownC col) w w' ∧ ∃ col', Grow col col' w w' ∧ Dsk w' col' D { s1 with now := overF s1.now b at_ n, wait := s.wait ++ waits (loF at_) k (overF s1.now b at_ n) }, fun i _ => (hiF at_ n - i).toNat,
    ⟨0, by omega, by omega, kw6, col5, gr6, by rw [← hwt]; simpa [waits] using h6⟩, ?_⟩
  rintro i w7 ⟨k, rfl, hk, k7, col7, gr7, h7⟩
  refine wr64 (by omega) ((c67 w7 (at_ + n) (by omega)).mono ?_)
  rintro v wx ⟨rfl, e⟩
  obtain rfl := e.symm
  have ehi : (at_ + (n : Int) + 511) / 512 = (hiF at_ n : Nat) := by unfold hiF; omega
  rw [ehi]
  refine ⟨_, rfl, (Kp.refl none_ _).keeps0, bif_dec (fun hlt => ?_) (fun hge => ?_)⟩
  rotate_left
  · have : k = hiF at_ n - loF at_ := by omega
    subst this
    exact ⟨_, rfl, rfl, k7, col7, gr7, h7⟩
  have hki : loF at_ + k < ({ s1 with now := overF s1.now b at_ n, wait := s.wait ++ waits (loF at_) k (overF s1.now b at_ n) } : St).size := by show loF at_ + k < s1.size; omega
  have ei : ((loF at_ : Nat) : Int) + (k : Int) = ((loF at_ + k : Nat) : Int) := by omega
  rw [ei]
  obtain ⟨qw, cw, ys, u1, u2, u3⟩ := h7.wait
  have hlen : (s.wait ++ waits (loF at_) k (overF s1.now b at_ n)).length ≤ 100000 := by simp [waits]; omega
  -- the round's end
  have fin : ∀ w2 g2 c2, Kp none_ w7 w2 → OwnRow w2 (fresh w7) 5 1 (.slice (some ⟨g2, 0, none⟩) 512 c2) 512 (byF (secAt (overF s1.now b at_ n) (loF at_ + k)) 512) →
      w2.cell? ⟨D, 2, none⟩ = some (.slice qw (s.wait ++ waits (loF at_) k (overF s1.now b at_ n)).length cw) ∧ (w2.alloc (.cells #[.int .i64 ((loF at_ + k : Nat) : Int), .slice (some ⟨g2, 0, none⟩) 512 c2] 118)).cell? ⟨D, 2, none⟩ = some (.slice qw (s.wait ++ waits (loF at_) k (overF s1.now b at_ n)).length cw) ∧
      Runs Try.prog (Builtin.append_ #[27, 27] 27 #[.slice qw (s.wait ++ waits (loF at_) k (overF s1.now b at_ n)).length cw, .slice (some ⟨w2.heap.size, 0, none⟩) 1 1]) (w2.alloc (.cells #[.int .i64 ((loF at_ + k : Nat) : Int), .slice (some ⟨g2, 0, none⟩) 512 c2] 118)) fun v w3 =>
        ∃ q' n' c', v = .slice q' n' c' ∧ Keeps (w2.alloc (.cells #[.int .i64 ((loF at_ + k : Nat) : Int), .slice (some ⟨g2, 0, none⟩) 512 c2] 118)) w3 [] ∧ (∃ u, w3.cell? ⟨D, 2, none⟩ = some u) ∧ w3.frozen? ⟨D, 2, none⟩ = false ∧
          Wr .i64 (((loF at_ + k : Nat) : Int) + 1) fun i48 => (∃ k' : Nat, i48 = (loF at_ : Nat) + (k' : Int) ∧ k' ≤ hiF at_ n - loF at_ ∧ Kp (ownC col) w (w3.setCell ⟨D, 2, none⟩ (.slice q' n' c')) ∧ ∃ col', Grow col col' w (w3.setCell ⟨D, 2, none⟩ (.slice q' n' c')) ∧ Dsk (w3.setCell ⟨D, 2, none⟩ (.slice q' n' c')) col' D { s1 with now := overF s1.now b at_ n, wait := s.wait ++ waits (loF at_) k' (overF s1.now b at_ n) }) ∧
            (hiF at_ n - i48).toNat < (hiF at_ n - ((loF at_ + k : Nat) : Int)).toNat := by
    intro w2 g2 c2 k2 r2
    obtain ⟨q', c', x1, x2, v', w3, x3, q3, c3, rfl, x5, x6, x7, x8, col8, x9, x10⟩ := pushWaitK h7 hki (f := overF s1.now b at_ n) hnb hlen k2 r2
    have e := x1.symm.trans (k2.cell0 u1)
    cases e
    refine ⟨x1, x2, _, _, x3, q3, _, c3, rfl, x5, x6, x7, wr64 (by omega) ⟨⟨k + 1, by omega, by omega, k7.then x8 (fun i hi hh => ?_), col8, gr7.trans x9 k7.size, ?_⟩, by omega⟩⟩
    · have hh : col7 i ≠ 0 := hh
      show col i ≠ 0
      rw [← gr7.1 i hi]
      exact hh
    · have : pushSt { s1 with now := overF s1.now b at_ n, wait := s.wait ++ waits (loF at_) k (overF s1.now b at_ n) } (loF at_ + k) (overF s1.now b at_ n) = { s1 with now := overF s1.now b at_ n, wait := s.wait ++ waits (loF at_) (k + 1) (overF s1.now b at_ n) } := by
        unfold pushSt
        simp only [waits_succ, List.append_assoc]
      rw [this] at x10
      exact x10
  have lit := fun (w2 : World) => lit_run (P := Try.prog) w2 Try.underlying25 info5e
  refine ⟨_, _, _, u1, ⟨_, _, lit w7.drew, _, _, _, rfl, (((Kp.refl none_ w7.drew).alloc _ _).keeps0), ?_⟩, ?_⟩
  · have ka : Kp none_ w7 (w7.drew.alloc (.cells #[] 5)) := (Kp.refl none_ w7).drew.alloc _ _
    have h2 := h7.kp0 ka
    refine ⟨cell_alloc _ u1, (c62 h2 (loF at_ + k) hki).mono ?_⟩
    rintro v wx ⟨⟨g', c', y1, y2, _, rfl⟩, e⟩
    obtain rfl := e.symm
    refine ⟨_, _, _, rfl, (Kp.refl none_ _).keeps0, ka.cell0 u1, secCopy h2 hki y1 fun g2 c2 w2 r2 k2 => ?_⟩
    obtain ⟨f1, f2, f3⟩ := fin w2 g2 c2 (ka.trans k2) (r2.mono fun i hi _ => Nat.le_trans ka.size hi)
    exact ⟨_, _, _, rfl, k2.keeps0, f1, f2, f3⟩
  · have h2 := h7.drew
    refine (c62 h2 (loF at_ + k) hki).mono ?_
    rintro v wx ⟨⟨g', c', y1, y2, _, rfl⟩, e⟩
    obtain rfl := e.symm
    have ka : Kp none_ w7.drew (w7.drew.alloc (.cells #[] 5)) := (Kp.refl none_ w7.drew).alloc _ _
    have h3 := h2.kp0 ka
    refine ⟨_, _, _, rfl, (Kp.refl none_ _).keeps0, u1, _, _, lit w7.drew, _, _, _, rfl, ka.keeps0, ka.cell0 u1, secCopy h3 hki (ka.cell0 y1) fun g2 c2 w2 r2 k2 => ?_⟩
    obtain ⟨f1, f2, f3⟩ := fin w2 g2 c2 (((Kp.refl none_ w7).drew.trans ka).trans k2) (r2.mono fun i hi _ => Nat.le_trans ka.size hi)
    exact ⟨_, _, _, rfl, k2.keeps0, f1, f2, f3⟩
end
end Go.Proofs.Ytlgkcbdpaffigaa
