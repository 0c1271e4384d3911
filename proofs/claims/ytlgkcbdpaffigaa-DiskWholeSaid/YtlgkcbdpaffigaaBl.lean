import Derived.Test.YtlgkcbdpaffigaaBk
namespace Go.Proofs.Ytlgkcbdpaffigaa
open Go Go.SX Go.Proofs Go.Lib
set_option maxRecDepth 100000
set_option linter.unusedVariables false
set_option linter.unusedSimpArgs false
section
variable {w w' : World} {col col' : Col} {D : Nat} {s : St} {S : Nat → Prop}
theorem byF_app (f g : Int → Int) (n m : Nat) (h : ∀ i : Nat, i < m → g i = f ((n : Int) + i)) : byF f n ++ byF g m = byF f (n + m) := by
  apply List.ext_getElem
  · rw [List.length_append, byF_len, byF_len, byF_len]
  · intro i h1 h2
    rw [byF_len] at h2
    by_cases c : i < n
    · rw [List.getElem_append_left (by rw [byF_len]; exact c)]
      simp only [byF, List.getElem_map, List.getElem_range]
    · rw [List.getElem_append_right (by rw [byF_len]; omega)]
      simp only [byF, List.getElem_map, List.getElem_range, List.length_map, List.length_range]
      rw [h _ (by omega)]
      congr 2
      omega
theorem byF_str (f : Int → Int) (hf : ∀ p, isByte (f p)) (a : Int) (k : Nat) : strCells (strOf f a k) = byF (fun p => f (a + p)) k := strCells_of (fun p => hf p) a k
theorem u9 : Try.prog.underlying 9 = some .string := by kernel_rfl
theorem c61 (h : RDsk w col D s) (at_ : Int) (n : Nat) (hr : rightF at_ n = true) : Rets Try.prog 61 #[.pointer (some ⟨D, 0, none⟩), .int .i64 at_, .int .i64 n] w fun v w' =>
    ∃ q c, v = .slice q n c ∧ Kp none_ w w' ∧ OwnRow w' (fresh w) 5 1 (.slice q n c) n (byF (readF s at_) n) := by
  refine ent [_, _, _] Try.func61 ((vcTry61 _ _ _ w _).mpr ?_)
  unfold VCTry61
  have hs := h.ok.size
  unfold rightF at hr
  have hr' := of_decide_eq_true hr
  obtain ⟨i5, i51, i52, i53, i54⟩ := info5
  refine make_cap Try.underlying25 ⟨i5, .int .u8 0, i51, i52, i53, rfl, by omega⟩ (by omega) fun w1 r1 k1 => ?_
  refine ⟨_, _, _, rfl, k1.keeps0, fun q m c a w' => m ≤ n ∧ a = at_ + m ∧ Kp none_ w w' ∧ OwnRow w' (fresh w) 5 1 (.slice q m c) m (byF (readF s at_) m), fun _ m _ _ _ => n - m, ⟨by omega, by omega, k1, r1⟩, ?_⟩
  rintro q m c a w2 ⟨hm, rfl, k2, r2⟩
  refine bif_dec (fun hlt => ⟨by omega, ?_⟩) (fun hge => ?_)
  rotate_left
  · have : m = n := by omega
    subst this
    exact ⟨_, rfl, q, c, rfl, k2, r2⟩
  have h2 := h.kp0 k2
  have e1 : (at_ + (m : Int)).tdiv 512 = (at_ + m) / 512 := Int.tdiv_eq_ediv_of_nonneg (by omega)
  have e2 : (at_ + (m : Int)).tmod 512 = (at_ + m) % 512 := Int.tmod_eq_emod_of_nonneg (by omega)
  rw [e1, e2]
  obtain ⟨q0, c0, l0⟩ := h2.now.len
  simp only [ptr_some, ad_add, Nat.zero_add, Nat.add_zero]
  refine wr64 (by omega) ⟨_, _, _, l0, bif_dec (fun hp => wr64 (by omega) ?_) (fun hp => ⟨_, _, _, l0, by omega, ?_⟩)⟩
  · have ek : (n : Int) - m = ((n - m : Nat) : Int) := by omega
    rw [ek]
    refine zeros_own (own := fresh w) (size := 1) (bytes := 1) (z := .int .u8 0) Try.underlying25 Try.underlying3 info5 rfl (by omega) (by omega) (fun u hu => ?_) r2 (by omega) (by omega) (fun q3 c3 w3 r3 k3 => ?_)
    · rw [zerosL_one rfl] at hu
      rw [List.eq_of_mem_replicate hu]
      simp [Value.oneCell']
    · have en : m + (n - m) = n := by omega
      have z2 := k2.size
      rw [zerosL_one rfl, en] at r3
      have ez : List.replicate (n - m) (Value.int .u8 0) = byF (fun _ => 0) (n - m) := by
        apply List.ext_getElem
        · rw [byF_len, List.length_replicate]
        · intro i h1 h2; simp only [byF, List.getElem_map, List.getElem_range, List.getElem_replicate]
      rw [ez, byF_app (readF s at_) (fun _ => 0) m (n - m) (fun i hi => by unfold readF; rw [if_neg (by omega)]), en] at r3
      rw [en]
      exact ⟨_, _, _, rfl, k3.keeps (by intro b hb; cases hb), _, rfl, _, _, rfl, k2.then k3 (fun i hi hh => by unfold fresh at hh; omega), r3.mono fun i hi _ => by
        rcases hi with hi | hi
        · exact hi
        · unfold fresh at hi ⊢; omega⟩
  · obtain ⟨i, hi⟩ : ∃ i : Nat, (at_ + m) / 512 = i := ⟨((at_ + m) / 512).toNat, by omega⟩
    obtain ⟨o, ho⟩ : ∃ o : Nat, (at_ + m) % 512 = o := ⟨((at_ + m) % 512).toNat, by omega⟩
    rw [hi, ho]
    have his : i < s.size := by omega
    obtain ⟨g, cc, x1, x2, x3⟩ := h2.now.get (by omega)
    rw [l0] at x1
    cases x1
    simp only [ptr_some, ad_add, Nat.zero_add, Nat.add_zero, Nat.mul_one, Int.toNat_natCast]
    refine ⟨_, x3 i _ (strL_get _ his), by omega, ?_⟩
    have hcut : (strOf s.now (512 * (i : Int)) 512).extract o 512 = strOf s.now (512 * i + o) (512 - o) := strOf_cut _ _ _ _ _ (Nat.le_refl _) (by omega)
    simp only [strOf_size, Int.toNat_natCast, hcut]
    have next : ∀ k : Nat, 0 < k → k ≤ n - m → k ≤ 512 - o → ∀ (q' : Option Addr) (c' : Nat) (v : Value) (w3 : World),
        OwnRow w3 (fun i => fresh w i ∨ fresh w2 i) 5 1 v (m + k) (byF (readF s at_) m ++ strCells (strOf s.now (512 * i + o) k)) → Kp (fresh w) w2 w3 → ∃ q' c', v = .slice q' (m + k) c' ∧ OwnRow w3 (fresh w) 5 1 (.slice q' (m + k) c') (m + k) (byF (readF s at_) (m + k)) ∧ Kp none_ w w3 := by
      intro k hk0 hk1 hk2 q' c' v w3 r3 k3
      have z2 := k2.size
      rw [byF_str _ h.ok.now, byF_app _ _ _ _ (fun j hj => by
        unfold readF
        rw [if_pos (by omega)]
        congr 1
        omega)] at r3
      obtain ⟨q4, c4, rfl⟩ : ∃ q4 c4, v = .slice q4 (m + k) c4 := by
        rcases r3.2 with ⟨h1, h2⟩ | ⟨g, cap, cur, h1, _⟩
        · omega
        · exact ⟨_, _, h1⟩
      exact ⟨q4, c4, rfl, r3.mono fun i hi _ => by
        rcases hi with hi | hi
        · exact hi
        · unfold fresh at hi ⊢; omega, k2.then k3 (fun i hi hh => by unfold fresh at hh; omega)⟩
    refine ⟨by omega, wr64 (by omega) (bif_dec (fun hgt => wr64 (by omega) ⟨?_, ?_⟩) (fun hle => ?_))⟩
    · omega
    · rw [strOf_cut _ _ _ _ _ (by omega) (by omega)]
      refine append_str Try.underlying25 u9 info5 r2 _ (by rw [strOf_size]; omega) fun v w3 r3 k3 => ?_
      have ek : ((n : Int) - m).toNat - 0 = n - m := by omega
      rw [ek, strOf_size] at r3
      obtain ⟨q4, c4, rfl, r4, k4⟩ := next (n - m) (by omega) (by omega) (by omega) none 0 v w3 (by simpa using r3) k3
      refine ⟨_, _, _, rfl, k3.keeps (by intro b hb; cases hb), ?_⟩
      rw [strOf_size, ek]
      exact wr64 (by omega) ⟨⟨by omega, by omega, k4, r4⟩, by first | omega | (dsimp only; omega)⟩
    · refine append_str Try.underlying25 u9 info5 r2 _ (by rw [strOf_size]; omega) fun v w3 r3 k3 => ?_
      rw [strOf_size] at r3
      obtain ⟨q4, c4, rfl, r4, k4⟩ := next (512 - o) (by omega) (by omega) (by omega) none 0 v w3 r3 k3
      refine ⟨_, _, _, rfl, k3.keeps (by intro b hb; cases hb), ?_⟩
      exact wr64 (by omega) ⟨⟨by omega, by omega, k4, r4⟩, by first | omega | (dsimp only; omega)⟩
end
end Go.Proofs.Ytlgkcbdpaffigaa
