import Derived.Test.YtlgkcbdpaffigaaBn
namespace Go.Proofs.Ytlgkcbdpaffigaa
open Go Go.SX Go.Proofs Go.Lib
set_option maxRecDepth 100000
set_option linter.unusedVariables false
set_option linter.unusedSimpArgs false
section
variable {w w' : World} {col col' : Col} {D : Nat} {s : St} {S : Nat → Prop}
/-- How many sectors are lacking. -/
def lack (D M : Nat) (w : World) : Nat := match w.cell? ⟨D, 0, none⟩ with | some (.slice _ n _) => M - n | _ => 0
theorem RDsk.lack (h : RDsk w col D s) (M : Nat) : Ytlgkcbdpaffigaa.lack D M w = M - s.size := by
  obtain ⟨q, c, l⟩ := h.now.len
  unfold Ytlgkcbdpaffigaa.lack
  rw [l]
theorem part0 (s g : St) (at_ : Int) (n : Nat) (b : Int → Int) (hg : g.wait = s.wait) (h0 : 0 ≤ at_) : partSt s g at_ n b 0 = g := by
  obtain ⟨x1, x2, x3, x4, x5⟩ := g
  simp only [partSt, waits, St.mk.injEq, true_and, and_true]
  refine ⟨funext fun p => ?_, by rw [← hg]; simp⟩
  unfold partF loF
  rw [if_neg (by omega)]
theorem partEnd (s g : St) (at_ : Int) (n : Nat) (b : Int → Int) (h0 : 0 ≤ at_) (hn : n ≠ 0) (hg : g = growSt s (hiF at_ n)) : partSt s g at_ n b (hiF at_ n - loF at_) = writeSt s at_ n b := by
  subst hg
  unfold partSt writeSt
  simp only [St.mk.injEq, true_and, and_true]
  refine funext fun p => ?_
  unfold partF overF
  have : at_ + n ≤ 512 * ((loF at_ : Int) + ((hiF at_ n - loF at_ : Nat) : Int)) := by unfold hiF loF; omega
  by_cases c : at_ ≤ p ∧ p < at_ + n
  · rw [if_pos c, if_pos (by omega)]
  · rw [if_neg c, if_neg (by omega)]
theorem partNext (s g : St) (at_ : Int) (n : Nat) (b : Int → Int) (j : Nat) (i : Nat) (hi : i = loF at_ + j) :
    ({ setNow (partSt s g at_ n b j) i (secAt (overF g.now b at_ n) i) with wait := (partSt s g at_ n b j).wait ++ [(i, overF g.now b at_ n)] } : St) = partSt s g at_ n b (j + 1) := by
  subst hi
  unfold partSt setNow secAt
  simp only [St.mk.injEq, true_and, and_true]
  refine ⟨funext fun p => ?_, ?_⟩
  · unfold partF overF
    by_cases c : 512 * ((loF at_ + j : Nat) : Int) ≤ p ∧ p < 512 * ((loF at_ + j : Nat) : Int) + 512
    · rw [if_pos c]
      have e : 512 * ((loF at_ + j : Nat) : Int) + (p - 512 * ((loF at_ + j : Nat) : Int)) = p := by omega
      rw [e]
      by_cases c2 : at_ ≤ p ∧ p < at_ + n
      · rw [if_pos (by omega), if_pos (by omega)]
      · rw [if_neg (by omega), if_neg (by omega)]
    · rw [if_neg c]
      by_cases c2 : at_ ≤ p ∧ p < at_ + n ∧ p < 512 * ((loF at_ : Int) + j)
      · rw [if_pos (by omega), if_pos (by omega)]
      · rw [if_neg (by omega), if_neg (by omega)]
  · rw [waits_succ, List.append_assoc]
theorem c58 (h : RDsk w col D s) {q : Option Addr} {n cp : Nat} {b : Int → Int} (hb : Ints w .u8 q n b) (hby : ∀ i : Int, 0 ≤ i → i < n → isByte (b i)) (hcp : n ≤ cp) (hq : 0 < n → ∀ a, q = some a → col a.block = 0) (hl : s.wait.length ≤ 90000) (at_ : Int) :
    Rets Try.prog 58 #[.pointer (some ⟨D, 0, none⟩), .int .i64 at_, .slice q n cp] w fun v w' =>
      v = .int .i64 (if rightF at_ n = true then 0 else 1) ∧ Kp (ownC col) w w' ∧ ∃ col', Grow col col' w w' ∧ RDsk w' col' D (if rightF at_ n = true ∧ n ≠ 0 then writeSt s at_ n b else s) := by
  refine ent [_, _, _] Try.func58 ((vcTry58 _ _ _ _ _ w _).mpr ?_)
  unfold VCTry58
  have hs := h.ok.size
  refine (c95 w at_ n).mono ?_
  rintro v wx ⟨rfl, e⟩
  obtain rfl := e.symm
  refine ⟨_, rfl, (Kp.refl none_ _).keeps0, bif_not (fun hr => ?_) (fun hr => ?_)⟩
  · rw [hr]
    exact ⟨_, rfl, rfl, Kp.refl _ _, col, Grow.refl h.lt (Nat.le_refl _), h⟩
  refine bif_eq (fun h0 => ?_) (fun h0 => ?_)
  · have hn0 : n = 0 := by omega
    rw [hr, if_pos rfl, if_neg (fun hh => hh.2 hn0)]
    exact ⟨_, rfl, rfl, Kp.refl _ _, col, Grow.refl h.lt (Nat.le_refl _), h⟩
  have hn0 : n ≠ 0 := by omega
  have hrr := hr
  unfold rightF at hrr
  have hr' := of_decide_eq_true hrr
  rw [hr, if_pos rfl, if_pos ⟨rfl, hn0⟩]
  have hneed : needF s at_ n = ((max s.size (hiF at_ n) : Nat) : Int) := by unfold needF hiF; rw [if_neg h0]; omega
  have hhi : hiF at_ n ≤ 4096 := by unfold hiF; omega
  refine (c96 h at_ n hr).mono ?_
  rintro v wx ⟨rfl, e⟩
  obtain rfl := e.symm
  rw [hneed]
  obtain ⟨M, hM⟩ : ∃ M, M = max s.size (hiF at_ n) := ⟨_, rfl⟩
  rw [← hM]
  refine ⟨_, rfl, (Kp.refl none_ _).keeps0, fun w' => ∃ m, s.size ≤ m ∧ m ≤ M ∧ Kp (ownC col) w w' ∧ ∃ col', Grow col col' w w' ∧ RDsk w' col' D (growSt s m), lack D M, ⟨s.size, by omega, by omega, Kp.refl _ _, col, Grow.refl h.lt (Nat.le_refl _), by unfold growSt; rw [if_neg (by omega)]; exact h⟩, ?_⟩
  rintro w1 ⟨m, hm1, hm2, k1, col1, gr1, h1⟩
  have hsz1 : (growSt s m).size = m := by rw [growSt_size]; omega
  obtain ⟨q0, c0, l0⟩ := h1.now.len
  rw [hsz1] at l0
  simp only [ptr_some, ad_add, Nat.zero_add, Nat.add_zero]
  refine ⟨_, _, _, l0, bif_dec (fun hlt => ?_) (fun hge => ?_)⟩
  · -- one more sector
    refine ⟨_, _, _, l0, (c97 w1.drew).mono ?_⟩
    rintro v w2 ⟨rfl, k2⟩
    have h2 := h1.drew.kp0 k2
    have l2 : w2.cell? ⟨D, 0, none⟩ = some (.slice q0 m c0) := k2.cell0 (show w1.drew.cell? ⟨D, 0, none⟩ = _ from l0)
    have hd2 := h2.dlt
    have push1 := h2.now.push (t := 30) (ty := 30) #[.string (strOf (fun _ => 0) 0 512)] h2.lt h2.frz h2.colD (by omega) Try.underlying30 elem9 (by omega) rfl (by simp [Value.oneCell']) (by rw [hsz1]; omega)
    rw [hsz1] at push1
    obtain ⟨qa, ca, a1, a2, v, w3, ar, q3, c3, rfl, a3, a4, a5, a6, a7, a8, col3, a9, a10, a11⟩ := push1
    rw [l2] at a1
    cases a1
    refine ⟨_, rfl, k2.keeps0, l2, a2, _, w3, ar, _, _, _, rfl, a3, a4, a5, ?_⟩
    obtain ⟨xs, s1, s2⟩ := h2.safe
    have ne : ∀ (c : Col) (k' k : Nat), c D = 1 → k ≠ 1 → k' ≠ k → ∀ i, (c i = k' ∨ i = D) → c i ≠ k := fun c k' k hc hk hkk i hi => by
      rcases hi with hi | hi
      · omega
      · rw [hi, hc]; exact fun h => hk h.symm
    have s3 := s1.kpc (col' := col3) a6 (fun i _ hi => ne col1 2 3 h2.colD (by omega) (by omega) i hi) a9 (fun v => a7 1 v (by omega))
    have b3 := h2.has.kpc (col' := col3) a6 (fun i _ hi => ne col1 2 4 h2.colD (by omega) (by omega) i hi) a9 (fun v => a7 2 v (by omega))
    have w3' := h2.wait.kpc (col' := col3) a6 (fun i _ hi => ne col1 2 5 h2.colD (by omega) (by omega) i hi) a9 (fun v => a7 3 v (by omega))
    have cD3 : col3 D = 1 := (a9 D hd2).trans h2.colD
    rw [hsz1] at s3 b3
    generalize w3.setCell ⟨D, 0, none⟩ (.slice q3 (m + 1) c3) = W3 at *
    have hd3 : D < W3.heap.size := Nat.lt_of_lt_of_le hd2 a6.size
    obtain ⟨qb, cb, b1, b2, v, w4, br, q4, c4, rfl, b4, b5, b6, b7, b8, b9, col4, b10, b11, b12⟩ := s3.push (t := 30) (ty := 30) #[.string ⟨#[]⟩] a10 a8 cD3 (by omega) Try.underlying30 elem9 (by omega) rfl (by simp [Value.oneCell']) (by omega)
    refine ⟨_, _, _, b1, _, w4, br, _, _, _, rfl, b4, b5, b6, ?_⟩
    have n4 := a11.kpc (col' := col4) b7 (fun i _ hi => ne col3 3 2 cD3 (by omega) (by omega) i hi) b10 (fun v => b8 0 v (by omega))
    have b4' := b3.kpc (col' := col4) b7 (fun i _ hi => ne col3 3 4 cD3 (by omega) (by omega) i hi) b10 (fun v => b8 2 v (by omega))
    have w4' := w3'.kpc (col' := col4) b7 (fun i _ hi => ne col3 3 5 cD3 (by omega) (by omega) i hi) b10 (fun v => b8 3 v (by omega))
    have cD4 : col4 D = 1 := (b10 D hd3).trans cD3
    generalize w4.setCell ⟨D, 1, none⟩ (.slice q4 (m + 1) c4) = W4 at *
    have hd4 : D < W4.heap.size := Nat.lt_of_lt_of_le hd3 b7.size
    obtain ⟨qc, cc, d1, d2, v, w5, dr, q5, c5, rfl, d4, d5, d6, d7, d8, d9, col5, d10, d11, d12⟩ := b4'.push (t := 31) (ty := 31) #[.bool false] b11 b9 cD4 (by omega) Try.underlying31 elem4 (by omega) rfl (by simp [Value.oneCell']) (by omega)
    refine ⟨_, _, _, d1, _, w5, dr, _, _, _, rfl, d4, d5, d6, ?_⟩
    have n5 := n4.kpc (col' := col5) d7 (fun i _ hi => ne col4 4 2 cD4 (by omega) (by omega) i hi) d10 (fun v => d8 0 v (by omega))
    have s5 := b12.kpc (col' := col5) d7 (fun i _ hi => ne col4 4 3 cD4 (by omega) (by omega) i hi) d10 (fun v => d8 1 v (by omega))
    have w5' := w4'.kpc (col' := col5) d7 (fun i _ hi => ne col4 4 5 cD4 (by omega) (by omega) i hi) d10 (fun v => d8 3 v (by omega))
    generalize w5.setCell ⟨D, 2, none⟩ (.slice q5 (m + 1) c5) = W5 at *
    have hnext : growSt s (m + 1) = { growSt s m with size := m + 1, now := fun p => if p < 512 * (m : Int) then (growSt s m).now p else 0, has := fun i => if i < m then (growSt s m).has i else false } := by
      rw [← grow_grow s m hm1, grow_pos _ _ (by rw [hsz1]; omega), hsz1]
    have ok1 := growSt_ok h.ok (m := m + 1) (by omega)
    have z1 := k1.size
    have z2 : w1.heap.size ≤ w2.heap.size := k2.size
    have z3 := a6.size
    have z4 := b7.size
    have cc3 : ∀ i, i < w.heap.size → col3 i = col i := fun i hi => (a9 i (by omega)).trans (gr1.1 i hi)
    have cc4 : ∀ i, i < w.heap.size → col4 i = col i := fun i hi => (b10 i (by omega)).trans (cc3 i hi)
    have cc5 : ∀ i, i < w.heap.size → col5 i = col i := fun i hi => (d10 i (by omega)).trans (cc4 i hi)
    have hdD : col D = 1 := h.colD
    have kA : Kp (ownC col) w W3 := (k1.drew.trans (k2.mono fun _ _ h => h.elim)).then a6 fun i hi hh => by
      show col i ≠ 0
      rcases hh with hh | hh
      · rw [gr1.1 i hi] at hh; omega
      · rw [hh, hdD]; omega
    have kB : Kp (ownC col) w W4 := kA.then b7 fun i hi hh => by
      show col i ≠ 0
      rcases hh with hh | hh
      · rw [cc3 i hi] at hh; omega
      · rw [hh, hdD]; omega
    have kl : Kp (ownC col) w W5 := kB.then d7 fun i hi hh => by
      show col i ≠ 0
      rcases hh with hh | hh
      · rw [cc4 i hi] at hh; omega
      · rw [hh, hdD]; omega
    have hfin : RDsk W5 col5 D (growSt s (m + 1)) := by
      have hxl := s1.xlen
      rw [hsz1] at hxl
      rw [hnext] at ok1 ⊢
      refine ⟨(d10 D hd4).trans cD4, d11, d9, ?_, ⟨_, s5, fun i hi => ?_⟩, ?_, w5', ok1⟩
      · rw [strL_snoc _ (fun p => if p < 512 * (m : Int) then (growSt s m).now p else 0) m _ (fun p hp => if_pos hp) (strOf_eq fun j hj => by rw [if_neg (by omega)])] at n5
        exact n5
      · have hi : i < m + 1 := hi
        show _ ∧ ((if i < m then (growSt s m).has i else false) = true → _)
        by_cases c : i < m
        · rw [if_pos c]
          have e : (xs ++ [Value.string ⟨#[]⟩])[i]? = xs[i]? := List.getElem?_append_left (by omega)
          rw [e]
          exact s2 i (by rw [hsz1]; exact c)
        · rw [if_neg c]
          have e : (xs ++ [Value.string ⟨#[]⟩])[i]? = some (.string ⟨#[]⟩) := by rw [List.getElem?_append_right (by omega), show i - xs.length = 0 by omega]; rfl
          exact ⟨⟨_, e⟩, fun h => by cases h⟩
      · rw [boolL_snoc _ (fun i => if i < m then (growSt s m).has i else false) m _ (fun i hi => if_pos hi) (if_neg (by omega))] at d12
        exact d12
    refine ⟨⟨m + 1, by omega, by omega, kl, col5, ?_, hfin⟩, ?_⟩
    · exact ⟨cc5, d11⟩
    · rw [hfin.lack, h1.lack, hsz1, growSt_size]
      omega
  -- the sectors
  have hmM : m = M := by omega
  subst hmM
  have hgM : growSt s m = growSt s (hiF at_ n) := by rw [hM, growSt_max]
  generalize hg : growSt s m = g at *
  have hgw : g.wait = s.wait := by rw [← hg, growSt_wait]
  have e512 : at_.tdiv 512 = (loF at_ : Nat) := by unfold loF; rw [Int.tdiv_eq_ediv_of_nonneg (by omega)]; omega
  rw [e512]
  have hlo : loF at_ < hiF at_ n := by unfold loF hiF; omega
  have hlo1 : 512 * (loF at_ : Int) ≤ at_ ∧ at_ < 512 * (loF at_ : Int) + 512 := by unfold loF; omega
  have hhi1 : (at_ + n : Int) ≤ 512 * (hiF at_ n : Int) ∧ 512 * (hiF at_ n : Int) < at_ + n + 512 := by unfold hiF; omega
  refine ⟨by omega, wr64 (by omega) ⟨fun i w' => ∃ j : Nat, i = (loF at_ : Nat) + (j : Int) ∧ j ≤ hiF at_ n - loF at_ ∧ Kp (ownC col) w w' ∧ ∃ col', Grow col col' w w' ∧ RDsk w' col' D (partSt s g at_ n b j), fun i _ => (hiF at_ n - i).toNat, ⟨0, by omega, by omega, k1, col1, gr1, by rw [part0 s g at_ n b hgw (by omega)]; exact h1⟩, ?_⟩⟩
  rintro i w7 ⟨j, rfl, hj, k7, col7, gr7, h7⟩
  have done : j = hiF at_ n - loF at_ → ∃ v, Ending.returned (Value.int .i64 0) = .returned v ∧ v = Value.int .i64 0 ∧ Kp (ownC col) w w7 ∧ ∃ col', Grow col col' w w7 ∧ RDsk w7 col' D (writeSt s at_ n b) := by
    rintro rfl
    exact ⟨_, rfl, rfl, k7, col7, gr7, by rw [← partEnd s g at_ n b (by omega) hn0 hgM]; exact h7⟩
  refine bif_dec (fun hlt => wr64 (by omega) (wr64 (by omega) (bif_dec (fun hlt2 => ?_) (fun hge2 => done (by omega))))) (fun hge2 => done (by omega))
  obtain ⟨i, hi⟩ : ∃ i : Nat, i = loF at_ + j := ⟨_, rfl⟩
  have hie : ((loF at_ : Nat) : Int) + (j : Int) = (i : Nat) := by omega
  rw [hie] at hlt hlt2 ⊢
  have his : i < (partSt s g at_ n b j).size := by
    show i < g.size
    omega
  have hsn : ∀ x : Nat, partF g.now b at_ n (512 * ((loF at_ : Int) + x)) = (partSt s g at_ n b x).now := fun x => rfl
  have hb7 : Ints w7 .u8 q n b := hb.kp k7 fun h0 a ha hh => hh (hq h0 a ha)
  have hov : ∀ p, isByte (overF g.now b at_ n p) := fun p => by
    unfold overF
    split
    · exact hby _ (by omega) (by omega)
    · rw [← hg]; exact (growSt_ok h.ok (by omega)).now p
  have hpt : ∀ (to p : Int), isByte (partF g.now b at_ n to p) := fun to p => by
    unfold partF
    split
    · exact hby _ (by omega) (by omega)
    · rw [← hg]; exact (growSt_ok h.ok (by omega)).now p
  -- one sector
  have hwl : (partSt s g at_ n b j).wait.length ≤ 100000 := by
    show (s.wait ++ waits (loF at_) j (overF g.now b at_ n)).length ≤ _
    rw [List.length_append]
    have : (waits (loF at_) j (overF g.now b at_ n)).length = j := by simp [waits]
    omega
  have seg := fun (F T : Int) (hF : at_ ≤ F ∧ 512 * (i : Int) ≤ F) (hT : T ≤ at_ + n ∧ T ≤ 512 * (i : Int) + 512) (hFT : F ≤ T) (hF2 : F = at_ ∨ F = 512 * (i : Int)) (hT2 : T = at_ + n ∨ T = 512 * (i : Int) + 512) => seg58 h7 hb7 hby hcp at_ (by omega) (by omega) (by omega) i his F T hF hT hFT (G := overF g.now b at_ n)
    (fun p a c => by
      show partF _ _ _ _ _ _ = _
      unfold partF overF
      rw [if_neg (by omega), if_neg (by omega)])
    (fun p a c => by
      show partF _ _ _ _ _ _ = _
      unfold partF overF
      rw [if_neg (by omega), if_neg (by omega)])
    (fun p a c => by
      unfold overF
      rw [if_pos (by omega)])
    hwl (f := overF g.now b at_ n) (fun p _ _ => rfl) hov
    (I50 := fun i w' => ∃ j : Nat, i = (loF at_ : Nat) + (j : Int) ∧ j ≤ hiF at_ n - loF at_ ∧ Kp (ownC col) w w' ∧ ∃ col', Grow col col' w w' ∧ RDsk w' col' D (partSt s g at_ n b j)) (I51 := fun i _ => (hiF at_ n - i).toNat)
    (fun w8 col8 k8 gr8 h8 => ⟨⟨j + 1, by omega, by omega, k7.then k8 (fun x hx hh => by
      show col x ≠ 0
      rw [← gr7.1 x hx]
      exact hh), col8, gr7.trans gr8 k7.size, by rw [partNext s g at_ n b j i hi] at h8; exact h8⟩, by first | omega | (dsimp only; omega)⟩)
  refine wr64 (by omega) (wr64 (by omega) (wr64 (by omega) (bif_dec (fun c1 => wr64 (by omega) (bif_dec (fun c2 => wr64 (by omega) ?_) (fun c2 => ?_))) (fun c1 => wr64 (by omega) (bif_dec (fun c2 => wr64 (by omega) ?_) (fun c2 => ?_))))))
  · exact seg at_ (at_ + n) (by omega) (by omega) (by omega) (by omega) (by omega)
  · exact seg at_ (512 * i + 512) (by omega) (by omega) (by omega) (by omega) (by omega)
  · exact seg (512 * i) (at_ + n) (by omega) (by omega) (by omega) (by omega) (by omega)
  · exact seg (512 * i) (512 * i + 512) (by omega) (by omega) (by omega) (by omega) (by omega)
end
end Go.Proofs.Ytlgkcbdpaffigaa
