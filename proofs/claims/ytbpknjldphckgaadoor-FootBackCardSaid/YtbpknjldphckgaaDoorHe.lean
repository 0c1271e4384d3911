/- FootFlips walked. -/
import Derived.Test.YtbpknjldphckgaaDoorHc
import Derived.Test.YtbpknjldphckgaaDoorQk
namespace Go.Proofs.YtbpknjldphckgaaDoor
open Go Go.SX Go.SX.Crc Go.Proofs Go.Lib
set_option maxRecDepth 100000
set_option linter.unusedVariables false
set_option linter.unusedSimpArgs false
theorem c62 {w : World} {q : Option Addr} {c : Nat} {l : List Mb} (h : MemsAt w q l) : Rets Tryd.prog 62 #[.slice q l.length c] w fun v w' => ∃ t, v = .bool t ∧ w' = w ∧ (t = false → l.length ≤ 250 ∧ ∀ b ∈ l, b.s.length ≤ 200) := by
  refine ent [_] Tryd.func62 ((vcTryd62 _ _ _ w _).mpr ?_)
  unfold VCTryd62
  refine ⟨fun i w' => ∃ j : Nat, i = j ∧ j ≤ 300 ∧ j ≤ l.length ∧ w' = w ∧ ∀ k (hk : k < l.length), k < j → (l[k]).s.length ≤ 200, fun i _ => (l.length - i).toNat, ⟨0, rfl, by omega, by omega, rfl, fun k hk h => by omega⟩, ?_⟩
  rintro i w' ⟨j, rfl, hj, hjl, rfl, ha⟩
  have fin : (300 ≤ j ∨ l.length ≤ j) → ∃ v, Ending.returned (Value.bool (decide ((l.length : Int) > 250))) = Ending.returned v ∧ ∃ t, v = .bool t ∧ w' = w' ∧ (t = false → l.length ≤ 250 ∧ ∀ b ∈ l, b.s.length ≤ 200) := fun hh => ⟨_, rfl, _, rfl, rfl, fun ht => by
    have hn := of_decide_eq_false ht
    refine ⟨by omega, fun b hb => ?_⟩
    obtain ⟨k, hk, e⟩ := List.getElem_of_mem hb
    rw [← e]
    exact ha k hk (by omega)⟩
  refine bif_dec (fun h1 => bif_dec (fun h2 => ⟨⟨by omega, by omega⟩, mem_at h (by omega) fun x _ m => ⟨_, m.c0, bif_dec (fun h3 => ⟨_, rfl, _, rfl, rfl, fun h => by cases h⟩) (fun h3 => wr64 (by omega) ⟨⟨j + 1, by omega, by omega, by omega, rfl, fun k hk hkj => ?_⟩, by first | omega | (dsimp only; omega)⟩)⟩⟩) (fun h2 => fin (by omega))) (fun h1 => fin (by omega))
  rw [ba_size] at h3
  by_cases e : k = j
  · subst e; omega
  · exact ha k hk (by omega)

theorem bitL_drop (l : List UInt8) (n i : Nat) : bitL (l.drop n) i = bitL l (8 * n + i) := by
  unfold bitL
  have e1 : (8 * n + i) / 8 = n + i / 8 := by omega
  have e2 : (8 * n + i) % 8 = i % 8 := by omega
  rw [e1, e2, List.getD_eq_getElem?_getD, List.getD_eq_getElem?_getD, List.getElem?_drop]
theorem bitL_left (a b : List UInt8) {i : Nat} (h : i < 8 * a.length) : bitL (a ++ b) i = bitL a i := by
  unfold bitL
  rw [List.getD_eq_getElem?_getD, List.getD_eq_getElem?_getD, List.getElem?_append_left (by omega)]
theorem bitL_right (a b : List UInt8) {i : Nat} (h : 8 * a.length ≤ i) : bitL (a ++ b) i = bitL b (i - 8 * a.length) := by
  have : bitL (a ++ b) i = bitL ((a ++ b).drop a.length) (i - 8 * a.length) := by rw [bitL_drop]; congr 1; omega
  rw [this, List.drop_left]
theorem bitL_take (l : List UInt8) (n : Nat) {i : Nat} (h : i < 8 * n) : bitL (l.take n) i = bitL l i := by
  unfold bitL
  rw [List.getD_eq_getElem?_getD, List.getD_eq_getElem?_getD, List.getElem?_take, if_pos (by omega)]
theorem footG_num (n l u : Int) (hn : 0 ≤ n ∧ n < 4294967296) (hl : 0 ≤ l ∧ l < 4294967296) (hu : 0 ≤ u ∧ u < 4294967296) : (numAt (footB n l u) 4 4 : Int) = n ∧ (numAt (footB n l u) 8 4 : Int) = l ∧ (numAt (footB n l u) 12 4 : Int) = u := by
  have hform : footB n l u = 70 :: 79 :: 79 :: 84 :: (le4 (w32 n) ++ (le4 (w32 l) ++ (le4 (w32 u) ++ le4 (sumL (footJ n l u 3))))) := by simp [footB, footJ, footM]
  have e4 : (footB n l u).drop 4 = le4 (w32 n) ++ (le4 (w32 l) ++ (le4 (w32 u) ++ le4 (sumL (footJ n l u 3)))) := by rw [hform]; rfl
  have e8 : (footB n l u).drop 8 = le4 (w32 l) ++ (le4 (w32 u) ++ le4 (sumL (footJ n l u 3))) := by rw [hform]; rfl
  have e12 : (footB n l u).drop 12 = le4 (w32 u) ++ le4 (sumL (footJ n l u 3)) := by rw [hform]; rfl
  refine ⟨?_, ?_, ?_⟩
  · unfold numAt; rw [e4, leN_take4, w32_nat hn.1 hn.2]
  · unfold numAt; rw [e8, leN_take4, w32_nat hl.1 hl.2]
  · unfold numAt; rw [e12, leN_take4, w32_nat hu.1 hu.2]
theorem readD_empty {l : List UInt8} (h : (readD l).2 ≠ 0) : (readD l).1 = [] := by
  unfold readD takeD at h ⊢
  split
  · rfl
  · split
    · rfl
    · split
      · rfl
      · split
        · rfl
        · split
          · rfl
          · split
            · rfl
            · rename_i h1 h2 h3 h4 h5 h6
              rw [if_neg h1, if_neg h2, if_neg h3, if_neg h4, if_neg h5, if_neg h6] at h
              exact absurd rfl h
/-- What is changed within 32 bits is refused. -/
theorem whole_flip {l : List Mb} {m : List UInt8} {a : Nat} (hok : okDir l = true) (fl : Flipped (wholeB l) m a 32) (h0 : (readD m).2 = 0) : m = wholeB l := by
  obtain ⟨hl1, hl2⟩ := dir_len hok
  have hml := fl.len
  rw [whole_len] at hml
  generalize hd : dirB l = d at *
  have hsl := (sumL d).isLt
  have hw : wholeB l = d ++ footB l.length d.length (sumL d).toNat := by rw [wholeB, hd]
  have hF : (footF m).2 = 0 := by
    unfold readD at h0
    by_cases hh : (footF m).2 ≠ 0
    · rw [if_pos hh] at h0; exact absurd h0 hh
    · exact Classical.byContradiction hh
  have hS : (footF m).1.2.2 = ((sumL (m.take d.length)).toNat : Int) := by
    unfold readD at h0
    rw [if_neg (fun h => h hF)] at h0
    have e : m.length - 20 = d.length := by omega
    rw [e] at h0
    by_cases h1 : (footF m).1.2.1 ≠ ((d.length : Nat) : Int)
    · rw [if_pos h1] at h0; exact absurd h0 (by decide)
    rw [if_neg h1] at h0
    by_cases h2 : (footF m).1.2.2 ≠ ((sumL (m.take d.length)).toNat : Int)
    · rw [if_pos h2] at h0; exact absurd h0 (by decide)
    · exact Classical.byContradiction h2
  -- the foot is as it was
  have hf : m.drop d.length = footB l.length d.length (sumL d).toNat := by
    have hG : (footG (m.drop d.length)).2 = 0 := by
      unfold footF at hF
      rw [if_neg (by omega), show m.length - 20 = d.length by omega] at hF
      exact hF
    have hnum : numAt (m.drop d.length) (footJ l.length d.length (sumL d).toNat 3).length 4 = (sumL ((m.drop d.length).take (footJ l.length d.length (sumL d).toNat 3).length)).toNat := by
      rw [footJ3_len]
      unfold footG at hG
      by_cases h1 : (m.drop d.length).take 4 ≠ footM
      · rw [if_pos h1] at hG; exact absurd hG (by decide)
      rw [if_neg h1] at hG
      by_cases h2 : numAt (m.drop d.length) 16 4 ≠ (sumL ((m.drop d.length).take 16)).toNat
      · rw [if_pos h2] at hG; exact absurd hG (by decide)
      · exact Classical.byContradiction h2
    refine sum_flip (a := a - 8 * d.length) ⟨?_, fun i hi hc => ?_⟩ hnum
    · rw [List.length_drop, List.length_append, footJ3_len, le4_len]; omega
    · rw [List.length_append, footJ3_len, le4_len] at hi
      rw [bitL_drop, fl.bit (8 * d.length + i) (by rw [hw, List.length_append, footB_len]; omega) (by omega), hw, bitL_right _ _ (by omega), show 8 * d.length + i - 8 * d.length = i by omega]
      rfl
  -- so is the sum
  have hu : (sumL (m.take d.length)).toNat = (sumL d).toNat := by
    have hg := footG_num l.length d.length (sumL d).toNat (by omega) (by omega) (by omega)
    have e : footF m = footG (footB l.length d.length (sumL d).toNat) := by
      unfold footF
      rw [if_neg (by omega), show m.length - 20 = d.length by omega, hf]
    rw [e] at hS hF
    unfold footG at hS hF
    by_cases h1 : (footB l.length d.length (sumL d).toNat).take 4 ≠ footM
    · rw [if_pos h1] at hF; exact absurd hF (by decide)
    rw [if_neg h1] at hF hS
    by_cases h2 : numAt (footB l.length d.length (sumL d).toNat) 16 4 ≠ (sumL ((footB l.length d.length (sumL d).toNat).take 16)).toNat
    · rw [if_pos h2] at hF; exact absurd hF (by decide)
    rw [if_neg h2] at hF hS
    by_cases h3 : okF (numAt (footB l.length d.length (sumL d).toNat) 4 4) (numAt (footB l.length d.length (sumL d).toNat) 8 4) = false
    · rw [if_pos h3] at hF; exact absurd hF (by decide)
    rw [if_neg h3] at hS
    have hS' : (numAt (footB l.length d.length (sumL d).toNat) 12 4 : Int) = ((sumL (m.take d.length)).toNat : Int) := hS
    rw [hg.2.2] at hS'
    omega
  have hsum : sumL (m.take d.length) = sumL d := BitVec.eq_of_toNat_eq hu
  have hlt : (m.take d.length).length = d.length := by rw [List.length_take]; omega
  have := summed_eq (l := d) (m := m.take d.length) (a := a) hlt.symm (fun i hi hc => by
    rw [hsum]
    by_cases hid : i < 8 * d.length
    · rw [bitL_left _ _ hid, bitL_left _ _ (by rw [hlt]; exact hid), bitL_take _ _ hid, fl.bit i (by rw [hw, List.length_append]; omega) hc, hw, bitL_left _ _ hid]
    · rw [bitL_right _ _ (by omega), bitL_right _ _ (by rw [hlt]; omega), hlt])
  rw [hsum] at this
  have hdd : d = m.take d.length := List.append_cancel_right this
  rw [hw, ← hf]
  conv => lhs; rw [← List.take_append_drop d.length m]
  rw [← hdd]
end Go.Proofs.YtbpknjldphckgaaDoor

/- What is written is read. -/
namespace Go.Proofs.YtbpknjldphckgaaDoor
open Go Go.SX Go.SX.Crc Go.Proofs Go.Lib
set_option maxRecDepth 100000
set_option linter.unusedVariables false
set_option linter.unusedSimpArgs false
theorem numAt_drop (l : List UInt8) (p i W : Nat) : numAt l (p + i) W = numAt (l.drop p) i W := by
  unfold numAt
  rw [List.drop_drop]
theorem nlen_drop (l : List UInt8) (p i : Nat) : nlen l (p + i) = nlen (l.drop p) i := by
  unfold nlen
  rw [List.getD_eq_getElem?_getD, List.getD_eq_getElem?_getD, List.getElem?_drop]
theorem numR_one {m : List UInt8} {s : Nat} (h : s + 1 ≤ m.length) : numR m 1 (s, false) = (nlen m s, s + 1, false) := by
  unfold numR
  rw [if_neg (by simp), width1, if_pos h, numAt_one (by omega)]
/-- A member that stands somewhere is read. -/
theorem rdOne_at {b : Mb} (hok : okMb b = true) (hu : 0 ≤ b.u ∧ b.u < 4294967296) (p r : List UInt8) : rdOne (p ++ mbB b ++ r) (p.length, false) = (b, p.length + (18 + b.s.length), false) := by
  obtain ⟨hsl, hm, ha, hf, hr, hz⟩ := okMb_facts hok
  have hdr : (p ++ mbB b ++ r).drop p.length = mbB b ++ r := by rw [List.append_assoc, List.drop_left]
  have hform : mbB b ++ r = UInt8.ofNat b.m.toNat :: UInt8.ofNat b.s.length :: (le4 (w32 b.a) ++ (le4 (w32 b.z) ++ (le4 (w32 b.r) ++ (le4 (w32 b.u) ++ (b.s ++ r))))) := by simp [mbB, mbJ]
  have hlen : (p ++ mbB b ++ r).length = p.length + (18 + b.s.length) + r.length := by rw [List.length_append, List.length_append, mbB_len]
  generalize hL : p ++ mbB b ++ r = L at *
  have n0 : (nlen L p.length : Int) = b.m := by
    have := nlen_drop L p.length 0
    rw [Nat.add_zero, hdr, hform] at this
    rw [this]
    show ((UInt8.ofNat b.m.toNat).toNat : Int) = _
    rw [UInt8.toNat_ofNat']; omega
  have n1 : nlen L (p.length + 1) = b.s.length := by
    rw [nlen_drop, hdr, hform]
    show (UInt8.ofNat b.s.length).toNat = _
    rw [UInt8.toNat_ofNat', Nat.mod_eq_of_lt (by omega)]
  have n2 : (numAt L (p.length + 2) 4 : Int) = b.a := by
    rw [numAt_drop, hdr]
    have e : (mbB b ++ r).drop 2 = le4 (w32 b.a) ++ (le4 (w32 b.z) ++ (le4 (w32 b.r) ++ (le4 (w32 b.u) ++ (b.s ++ r)))) := by rw [hform]; rfl
    unfold numAt
    rw [e, leN_take4, w32_nat (by omega) (by omega)]
  have n6 : (numAt L (p.length + 6) 4 : Int) = b.z := by
    rw [numAt_drop, hdr]
    have e : (mbB b ++ r).drop 6 = le4 (w32 b.z) ++ (le4 (w32 b.r) ++ (le4 (w32 b.u) ++ (b.s ++ r))) := by rw [hform]; rfl
    unfold numAt
    rw [e, leN_take4, w32_nat (by omega) (by omega)]
  have n10 : (numAt L (p.length + 10) 4 : Int) = b.r := by
    rw [numAt_drop, hdr]
    have e : (mbB b ++ r).drop 10 = le4 (w32 b.r) ++ (le4 (w32 b.u) ++ (b.s ++ r)) := by rw [hform]; rfl
    unfold numAt
    rw [e, leN_take4, w32_nat (by omega) (by omega)]
  have n14 : (numAt L (p.length + 14) 4 : Int) = b.u := by
    rw [numAt_drop, hdr]
    have e : (mbB b ++ r).drop 14 = le4 (w32 b.u) ++ (b.s ++ r) := by rw [hform]; rfl
    unfold numAt
    rw [e, leN_take4, w32_nat hu.1 hu.2]
  have n18 : (L.drop (p.length + 18)).take b.s.length = b.s := by
    rw [← List.drop_drop, hdr]
    have e : (mbB b ++ r).drop 18 = b.s ++ r := by rw [hform]; rfl
    rw [e, List.take_left]
  have x1 : eM L (p.length, false) = (nlen L p.length, p.length + 1, false) := numR_one (by omega)
  have x2 : eN L (p.length, false) = (b.s.length, p.length + 2, false) := by unfold eN; rw [x1]; show numR L 1 (p.length + 1, false) = _; rw [numR_one (by omega), n1]
  have x3 : eA L (p.length, false) = (numAt L (p.length + 2) 4, p.length + 6, false) := by unfold eA; rw [x2]; exact numR_at (by omega)
  have x4 : eZ L (p.length, false) = (numAt L (p.length + 6) 4, p.length + 10, false) := by unfold eZ; rw [x3]; exact numR_at (by omega)
  have x5 : eR L (p.length, false) = (numAt L (p.length + 10) 4, p.length + 14, false) := by unfold eR; rw [x4]; exact numR_at (by omega)
  have x6 : eU L (p.length, false) = (numAt L (p.length + 14) 4, p.length + 18, false) := by unfold eU; rw [x5]; exact numR_at (by omega)
  have x7 : eB L (p.length, false) = (b.s, p.length + 18 + b.s.length, false) := by unfold eB; rw [x2, x6]; show bytR L (b.s.length : Nat) (p.length + 18, false) = _; rw [bytR_at (by omega), n18]
  unfold rdOne
  rw [x7, x6, x5, x4, x3, x1]
  simp only [n0, n2, n6, n10, n14, ba_size]
  have hf' : b.a + (22 + (b.s.length : Int)) = b.f := by omega
  rw [hf']
  simp only [Prod.mk.injEq, true_and, and_true]
  omega
theorem rdAll_dir {l : List Mb} (h : ∀ b ∈ l, okMb b = true ∧ 0 ≤ b.u ∧ b.u < 4294967296) : ∀ k, k ≤ l.length → rdAll (dirB l) k = (l.take k, lenL (l.take k), false)
  | 0, _ => by simp [rdAll, lenL]
  | k + 1, hk => by
    rw [rdAll, rdAll_dir h k (by omega)]
    have hkl : k < l.length := by omega
    have hb := h _ (List.getElem_mem hkl)
    have hsplit : dirB l = dirB (l.take k) ++ mbB l[k] ++ dirB (l.drop (k + 1)) := by
      conv => lhs; rw [← List.take_append_drop (k + 1) l]
      rw [dirB_app, dirB_step hkl]
    have := rdOne_at hb.1 hb.2 (dirB (l.take k)) (dirB (l.drop (k + 1)))
    rw [← hsplit, dirB_len] at this
    rw [this, lenL_step hkl, List.take_succ_eq_append_getElem hkl]
/-- What is written is read. -/
theorem read_whole {l : List Mb} (hok : okDir l = true) (hw : ∀ b ∈ l, b.wf) : readD (wholeB l) = (l, 0) := by
  obtain ⟨hl1, hl2⟩ := dir_len hok
  obtain ⟨_, hall⟩ := okDir_all hok
  have hsl := (sumL (dirB l)).isLt
  have hwl := whole_len l
  have hg := footG_num l.length (dirB l).length (sumL (dirB l)).toNat (by omega) (by omega) (by omega)
  have htk : (wholeB l).take (dirB l).length = dirB l := by rw [wholeB, List.take_left]
  have hdr : (wholeB l).drop (dirB l).length = footB l.length (dirB l).length (sumL (dirB l)).toNat := by rw [wholeB, List.drop_left]
  have hfl := footJ3_len l.length (dirB l).length (sumL (dirB l)).toNat
  have hF : footF (wholeB l) = (((l.length : Int), ((dirB l).length : Int), ((sumL (dirB l)).toNat : Int)), 0) := by
    unfold footF
    rw [if_neg (by omega), show (wholeB l).length - 20 = (dirB l).length by omega, hdr]
    unfold footG
    have h4 : (footB l.length (dirB l).length (sumL (dirB l)).toNat).take 4 = footM := by simp [footB, footJ, footM]
    have h16 : (footB l.length (dirB l).length (sumL (dirB l)).toNat).take 16 = footJ l.length (dirB l).length (sumL (dirB l)).toNat 3 := by
      rw [footB, ← hfl, List.take_left]
    have hn16 : numAt (footB l.length (dirB l).length (sumL (dirB l)).toNat) 16 4 = (sumL (footJ l.length (dirB l).length (sumL (dirB l)).toNat 3)).toNat := by
      unfold numAt
      rw [footB, ← hfl, List.drop_left]
      have := leN_take4 (sumL (footJ l.length (dirB l).length (sumL (dirB l)).toNat 3)) []
      rwa [List.append_nil] at this
    rw [if_neg (fun h => h h4), h16, hn16, if_neg (fun h => h rfl), hg.1, hg.2.1, hg.2.2]
    have hokf : okF (l.length : Int) ((dirB l).length : Int) = true := decide_eq_true ⟨⟨by omega, by omega⟩, by omega, by omega⟩
    rw [hokf, if_neg (by decide)]
  unfold readD
  rw [hF, if_neg (fun h => h rfl), show (wholeB l).length - 20 = (dirB l).length by omega, if_neg (fun h => h rfl), htk, if_neg (fun h => h rfl)]
  show takeD (dirB l) (l.length : Int) = _
  unfold takeD
  rw [if_neg (fun h => h ⟨by omega, by omega⟩), Int.toNat_natCast, rdAll_dir (fun b hb => ⟨hall b hb, (hw b hb).2.2⟩) l.length (Nat.le_refl _), List.take_of_length_le (Nat.le_refl _)]
  rw [if_neg (by simp), if_neg (fun h => by
    rcases h with h | h
    · rw [dirB_len] at h; exact absurd h (Nat.lt_irrefl _)
    · rw [hok] at h; cases h)]
theorem c15 {W : World} (hml : ML W) {q : Option Addr} {c : Nat} {l : List Mb} (hq : MemsAt W q l) (hwf : ∀ b ∈ l, b.wf) (x y : Int) (hy : 0 ≤ y ∧ y < 4294967296) : Rets Tryd.prog 15 #[.slice q l.length c, .int .i64 x, .int .u32 y] W fun v w' => v = .bool true ∧ Kp none_ W w' := by
  refine ent [_, _, _] Tryd.func15 ((vcTryd15 _ _ _ _ _ W _).mpr ?_)
  unfold VCTryd15
  have live : ∀ {w : World}, Kp none_ W w → Rets Tryd.prog 60 #[] w fun v w' => ∃ t, v = .bool t ∧ Keeps w w' [] ∧ ∃ v, Ending.returned (Value.bool t) = Ending.returned v ∧ v = .bool true ∧ Kp none_ W w' := fun k => (c60 (hml.kp0 k)).mono (by
    rintro v w' ⟨rfl, k2⟩
    exact ⟨_, rfl, k2.keeps0, _, rfl, rfl, k.trans k2⟩)
  refine (c62 hq).mono ?_
  rintro v wx ⟨t, rfl, e, ht⟩
  obtain rfl := e.symm
  refine ⟨_, rfl, (Kp.refl none_ _).keeps0, bif_b (fun _ => live (Kp.refl _ _)) (fun h1 => bif_dec (fun _ => live (Kp.refl _ _)) (fun hx => bif_dec (fun _ => live (Kp.refl _ _)) (fun hx2 => ?_)))⟩
  obtain ⟨hl, hs⟩ := ht h1
  refine mk_tab fun w4 w7 k7 t7 _ _ => (c63 (hml.kp0 k7) t7 (hq.kp0 k7) fun b hb => ⟨by have := hs b hb; omega, hwf b hb⟩).mono ?_
  rintro v w8 ⟨q8, n8, c8, rfl, b8, k8⟩
  have k08 := k7.trans k8
  refine ⟨_, _, _, _, rfl, k8.keeps0, ?_⟩
  cases ho : okDir l with
  | false =>
    rw [ho] at b8
    simp only [Bool.false_eq_true, if_false] at b8 ⊢
    obtain ⟨rfl, _⟩ := b8.lens
    refine bif_ne (fun _ => bif_eq (fun _ => live k08) (fun h => absurd rfl h)) (fun h => absurd h (by decide))
  | true =>
    rw [ho] at b8
    simp only [if_true] at b8 ⊢
    obtain ⟨rfl, _⟩ := b8.lens
    obtain ⟨hl1, hl2⟩ := dir_len ho
    have hwl := whole_len l
    obtain ⟨A, rfl⟩ : ∃ A : Nat, x = A := ⟨x.toNat, by omega⟩
    refine bif_ne (fun h => absurd rfl h) (fun _ => (c34 b8.bytes (by omega) A (by omega) y hy).mono ?_)
    rintro v w9 ⟨m, fl, b9, k9⟩
    obtain ⟨q9, c9, rfl, hc9, _⟩ := b9.slice
    have hml' := fl.len
    have k09 := k08.trans k9
    refine ⟨_, _, _, rfl, k9.keeps0, (c64 (hml.kp0 k09) ((t7.kp0 k8).kp0 k9) b9.bytes hc9 (by omega)).mono ?_⟩
    rintro v w10 ⟨q10, c10, rfl, m10, k10⟩
    have k010 := k09.trans k10
    refine ⟨_, _, _, _, rfl, k10.keeps0, (c35 ((b8.bytes.kp0 k9).kp0 k10) (b9.bytes.kp0 k10)).mono ?_⟩
    rintro v wx ⟨rfl, e⟩
    obtain rfl := e.symm
    refine ⟨_, rfl, (Kp.refl none_ _).keeps0, bif_dec (fun hsame => bif_eq (fun _ => live k010) (fun h => ?_)) (fun hne => bif_ne (fun h => bif_eq (fun _ => live k010) (fun h' => ?_)) (fun h => absurd (whole_flip ho fl h).symm hne))⟩
    · rw [← hsame, read_whole ho hwf] at h
      exact absurd rfl h
    · rw [readD_empty h] at h'
      exact absurd rfl h'
end Go.Proofs.YtbpknjldphckgaaDoor
