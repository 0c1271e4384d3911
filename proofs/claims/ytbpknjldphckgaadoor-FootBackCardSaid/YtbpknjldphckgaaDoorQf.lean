import Derived.Test.YtbpknjldphckgaaDoorQe
namespace Go.Proofs.YtbpknjldphckgaaDoor
open Go Go.SX Go.SX.Crc Go.Proofs Go.Lib
set_option maxRecDepth 100000
set_option linter.unusedVariables false
set_option linter.unusedSimpArgs false
/-! ### A reader of bytes -/
structure Rdr (w : World) (r : Nat) (l : List UInt8) (s : Nat × Bool) : Prop where
  b : ∃ q c, w.cell? ⟨r, 0, none⟩ = some (.slice q l.length c) ∧ l.length ≤ c ∧ BytesAt w q (ba l) ∧ (0 < l.length → ∀ x, q = some x → x.block < r)
  at_ : w.cell? ⟨r, 1, none⟩ = some (.int .i64 s.1)
  bad : w.cell? ⟨r, 2, none⟩ = some (.bool s.2)
  frz : ∀ o, w.frozen? ⟨r, o, none⟩ = false
  le : s.1 ≤ l.length
theorem Rdr.lt {w : World} {r : Nat} {l : List UInt8} {s : Nat × Bool} (h : Rdr w r l s) : r < w.heap.size := cell_lt h.at_
theorem Rdr.kp0 {w w' : World} {r : Nat} {l : List UInt8} {s : Nat × Bool} (h : Rdr w r l s) (hk : Kp none_ w w') : Rdr w' r l s := by
  obtain ⟨q, c, h1, h2, h3, h4⟩ := h.b
  exact ⟨⟨q, c, hk.cell0 h1, h2, h3.kp0 hk, h4⟩, hk.cell0 h.at_, hk.cell0 h.bad, fun o => (hk.frz ⟨r, o, none⟩ h.lt).trans (h.frz o), h.le⟩
theorem Rdr.setAt {w : World} {r : Nat} {l : List UInt8} {s : Nat × Bool} (h : Rdr w r l s) {a : Nat} (ha : a ≤ l.length) : Rdr (w.setCell ⟨r, 1, none⟩ (.int .i64 a)) r l (a, s.2) ∧ Kp (one_ r) w (w.setCell ⟨r, 1, none⟩ (.int .i64 a)) := by
  obtain ⟨q, c, h1, h2, h3, h4⟩ := h.b
  have hk : Kp (one_ r) w (w.setCell ⟨r, 1, none⟩ (.int .i64 a)) := Kp.setCell (x := ⟨r, 1, none⟩) (Kp.refl (one_ r) w) _ (.inl rfl)
  exact ⟨⟨⟨q, c, by rw [cell_set_off _ (by omega)]; exact h1, h2, h3.kp hk (fun h0 x hx => Nat.ne_of_lt (h4 (by rwa [ba_size] at h0) x hx)), h4⟩, cell_set_same _ h.at_, by rw [cell_set_off _ (by omega)]; exact h.bad, fun o => by rw [frozen_set]; exact h.frz o, ha⟩, hk⟩
theorem Rdr.setBad {w : World} {r : Nat} {l : List UInt8} {s : Nat × Bool} (h : Rdr w r l s) : Rdr (w.setCell ⟨r, 2, none⟩ (.bool true)) r l (s.1, true) ∧ Kp (one_ r) w (w.setCell ⟨r, 2, none⟩ (.bool true)) := by
  obtain ⟨q, c, h1, h2, h3, h4⟩ := h.b
  have hk : Kp (one_ r) w (w.setCell ⟨r, 2, none⟩ (.bool true)) := Kp.setCell (x := ⟨r, 2, none⟩) (Kp.refl (one_ r) w) _ (.inl rfl)
  exact ⟨⟨⟨q, c, by rw [cell_set_off _ (by omega)]; exact h1, h2, h3.kp hk (fun h0 x hx => Nat.ne_of_lt (h4 (by rwa [ba_size] at h0) x hx)), h4⟩, by rw [cell_set_off _ (by omega)]; exact h.at_, cell_set_same _ h.bad, fun o => by rw [frozen_set]; exact h.frz o, h.le⟩, hk⟩
def numR (l : List UInt8) (k : Int) (s : Nat × Bool) : Nat × Nat × Bool := if s.2 = true then (0, s) else if s.1 + widthI k ≤ l.length then (numAt l s.1 (widthI k), s.1 + widthI k, false) else (0, s.1, true)
def bytR (l : List UInt8) (n : Int) (s : Nat × Bool) : List UInt8 × Nat × Bool := if s.2 = true then ([], s) else if n < 0 ∨ n > (l.length : Int) - s.1 then ([], s.1, true) else ((l.drop s.1).take n.toNat, s.1 + n.toNat, false)
theorem c109 {w : World} {q : Option Addr} {c : Nat} {l : List UInt8} (hb : BytesAt w q (ba l)) (hc : l.length ≤ c) : Rets Tryd.prog 109 #[.slice q l.length c] w fun v w' => v = .pointer (some ⟨w.heap.size, 0, none⟩) ∧ Kp none_ w w' ∧ Rdr w' w.heap.size l (0, false) := by
  refine ent [_] Tryd.func109 ((vcTryd109 _ _ _ w _).mpr ?_)
  unfold VCTryd109
  intro _
  have k1 : Kp none_ w (w.alloc (.cells #[.slice q l.length c, .int .i64 0, .bool false] 197)) := (Kp.refl none_ w).alloc1 _
  refine ⟨_, rfl, rfl, k1, ⟨⟨q, c, cell_alloc_new rfl, hc, hb.kp0 k1, fun h0 x hx => ?_⟩, cell_alloc_new rfl, cell_alloc_new rfl, fun o => ?_, by simp⟩⟩
  · have := hb.lt (by rw [ba_size]; exact h0) x hx
    omega
  · unfold World.frozen?
    rw [alloc_get, if_pos rfl]
    simp
section
variable {w : World} {r : Nat} {l : List UInt8} {s : Nat × Bool}
theorem c113 (h : Rdr w r l s) : Rets Tryd.prog 113 #[.pointer (some ⟨r, 0, none⟩)] w fun v w' => v = .bool (!s.2) ∧ w' = w := by
  refine ent [_] Tryd.func113 ((vcTryd113 _ w _).mpr ?_)
  unfold VCTryd113
  show cond true _ _
  simp only [cond_true, ptr_some, ad_add, Nat.zero_add]
  exact ⟨_, h.bad, _, rfl, rfl, trivial⟩
theorem c112 (h : Rdr w r l s) : Rets Tryd.prog 112 #[.pointer (some ⟨r, 0, none⟩)] w fun v w' => v = .int .i64 s.1 ∧ w' = w := by
  refine ent [_] Tryd.func112 ((vcTryd112 _ w _).mpr ?_)
  unfold VCTryd112
  show cond false _ _
  simp only [cond_false, ptr_some, ad_add, Nat.zero_add]
  exact ⟨_, h.at_, _, rfl, rfl, trivial⟩
theorem c163 (h : Rdr w r l s) (hl : l.length ≤ 1000000000) : Rets Tryd.prog 163 #[.pointer (some ⟨r, 0, none⟩)] w fun v w' => v = .int .i64 ((l.length - s.1 : Nat) : Int) ∧ Kp none_ w w' := by
  refine ent [_] Tryd.func163 ((vcTryd163 _ w _).mpr ?_)
  unfold VCTryd163
  obtain ⟨q, c, h1, h2, h3, h4⟩ := h.b
  have hle := h.le
  show cond false _ _
  simp only [cond_false, ptr_some, ad_add, Nat.zero_add]
  refine ⟨_, _, _, h1, _, h.at_, wr64 (by omega) ⟨_, rfl, ?_, (Kp.refl _ _).drew⟩⟩
  congr 1
  omega
theorem c111 (h : Rdr w r l s) (hl : l.length ≤ 1000000000) (k : Int) : Rets Tryd.prog 111 #[.pointer (some ⟨r, 0, none⟩), .int .i64 k] w fun v w' => v = .int .u32 (numR l k s).1 ∧ Kp (one_ r) w w' ∧ Rdr w' r l (numR l k s).2 := by
  refine ent [_, _] Tryd.func111 ((vcTryd111 _ _ w _).mpr ?_)
  unfold VCTryd111
  refine (c113 h).mono ?_
  rintro v wx ⟨rfl, e⟩
  obtain rfl := e.symm
  have hle := h.le
  refine ⟨_, rfl, (Kp.refl none_ _).keeps0, bif_not (fun hb => ⟨_, rfl, ?_⟩) (fun hb => ?_)⟩
  · have hb : s.2 = true := by simpa using hb
    unfold numR
    rw [if_pos hb]
    exact ⟨rfl, Kp.refl _ _, h⟩
  have hb : s.2 = false := by simpa using hb
  have h' : Rdr w.drew r l s := h.kp0 (Kp.refl none_ w).drew
  obtain ⟨q, c, h1, h2, h3, h4⟩ := h'.b
  simp only [ptr_some, ad_add, Nat.zero_add]
  refine ⟨_, _, _, h1, _, h'.at_, (c159 h3 hl s.1 k (by omega)).mono ?_⟩
  rintro v wx ⟨hv, e⟩
  obtain rfl := e.symm
  have kd : Kp (one_ r) w w.drew := (Kp.refl _ w).drew
  unfold numR
  rw [if_neg (by rw [hb]; decide)]
  simp only [Int.toNat_natCast] at hv
  by_cases hw : s.1 + widthI k ≤ l.length
  · rw [if_pos ⟨by omega, hw⟩] at hv
    subst hv
    rw [if_pos hw]
    refine ⟨_, _, rfl, (Kp.refl none_ _).keeps0, ?_⟩
    show cond false _ _
    simp only [cond_false]
    refine ⟨_, h'.at_, (c157 k _).mono ?_⟩
    rintro v wx ⟨rfl, e⟩
    obtain rfl := e.symm
    have hW := widthI_le k
    have h'' : Rdr w.drew.drew r l s := h'.kp0 (Kp.refl none_ _).drew
    obtain ⟨h5, k5⟩ := h''.setAt hw
    refine ⟨_, rfl, (Kp.refl none_ _).keeps0, h''.at_, wr64 (by omega) ⟨⟨_, h''.at_⟩, h''.frz 1, _, rfl, rfl, ?_, ?_⟩⟩
    · have e1 : (s.1 : Int) + (widthI k : Int) = ((s.1 + widthI k : Nat) : Int) := by omega
      rw [e1]
      exact (kd.trans (Kp.refl _ _).drew).trans k5
    · have e1 : (s.1 : Int) + (widthI k : Int) = ((s.1 + widthI k : Nat) : Int) := by omega
      rw [e1]
      rw [hb] at h5
      exact h5
  · rw [if_neg (fun h => hw h.2)] at hv
    subst hv
    rw [if_neg hw]
    refine ⟨_, _, rfl, (Kp.refl none_ _).keeps0, ?_⟩
    show cond true _ _
    simp only [cond_true]
    obtain ⟨h5, k5⟩ := h'.setBad
    exact ⟨⟨_, h'.bad⟩, h'.frz 2, _, rfl, rfl, kd.trans k5, h5⟩
theorem bytes_drop {w : World} {q : Option Addr} {c : Nat} {l : List UInt8} (h : BytesAt w q (ba l)) {a k : Nat} (hk : a + k ≤ l.length) (hc : l.length ≤ c) : BytesAt w (cutA q c a 1) (ba ((l.drop a).take k)) := by
  intro i hi
  have hik : i < k := by rw [ba_size, List.length_take] at hi; omega
  obtain ⟨x, e, hcl⟩ := h (a + i) (by rw [ba_size]; omega)
  subst e
  have hne : ¬ c = a := by omega
  refine ⟨x.add a, by simp [cutA, hne], ?_⟩
  rw [add_add, hcl, ba_get, ba_get]
  simp
theorem bytes_from {w : World} {q : Option Addr} {c : Nat} {l : List UInt8} (h : BytesAt w q (ba l)) {a : Nat} (hk : a ≤ l.length) (hc : l.length ≤ c) : BytesAt w (cutA q c a 1) (ba (l.drop a)) := by
  have := bytes_drop h (a := a) (k := l.length - a) (by omega) hc
  rwa [List.take_of_length_le (by rw [List.length_drop]; omega)] at this
theorem c110 (h : Rdr w r l s) (hl : l.length ≤ 1000000000) (n : Int) (hn : -1000000000 ≤ n ∧ n ≤ 100000000000) : Rets Tryd.prog 110 #[.pointer (some ⟨r, 0, none⟩), .int .i64 n] w fun v w' => ∃ q c, v = .slice q (bytR l n s).1.length c ∧ (bytR l n s).1.length ≤ c ∧ BytesAt w' q (ba (bytR l n s).1) ∧ Kp (one_ r) w w' ∧ Rdr w' r l (bytR l n s).2 := by
  refine ent [_, _] Tryd.func110 ((vcTryd110 _ _ w _).mpr ?_)
  unfold VCTryd110
  refine (c113 h).mono ?_
  rintro v wx ⟨rfl, e⟩
  obtain rfl := e.symm
  have hle := h.le
  have nob : ∀ w : World, BytesAt w none (ba []) := fun w i hi => by rw [ba_size] at hi; simp at hi
  refine ⟨_, rfl, (Kp.refl none_ _).keeps0, bif_not (fun hb => ⟨_, rfl, ?_⟩) (fun hb => ?_)⟩
  · have hb : s.2 = true := by simpa using hb
    unfold bytR
    rw [if_pos hb]
    exact ⟨none, 0, rfl, by simp, nob _, Kp.refl _ _, h⟩
  have hb : s.2 = false := by simpa using hb
  have h' : Rdr w.drew r l s := h.kp0 (Kp.refl none_ w).drew
  have kd : Kp (one_ r) w w.drew := (Kp.refl _ w).drew
  obtain ⟨q, c, h1, h2, h3, h4⟩ := h'.b
  simp only [ptr_some, ad_add, Nat.zero_add]
  obtain ⟨h5, k5⟩ := h'.setBad
  have bad : (n < 0 ∨ n > (l.length : Int) - s.1) → ∃ v, Ending.returned (Value.slice none 0 0) = Ending.returned v ∧ ∃ q c, v = .slice q (bytR l n s).1.length c ∧ (bytR l n s).1.length ≤ c ∧ BytesAt (w.drew.setCell ⟨r, 2, none⟩ (.bool true)) q (ba (bytR l n s).1) ∧ Kp (one_ r) w (w.drew.setCell ⟨r, 2, none⟩ (.bool true)) ∧ Rdr (w.drew.setCell ⟨r, 2, none⟩ (.bool true)) r l (bytR l n s).2 := fun hh => by
    unfold bytR
    rw [if_neg (by rw [hb]; decide), if_pos hh]
    exact ⟨_, rfl, none, 0, rfl, by simp, nob _, kd.trans k5, h5⟩
  refine bif_dec (fun hneg => ⟨⟨_, h'.bad⟩, h'.frz 2, bad (.inl hneg)⟩) (fun hnn => ⟨_, _, _, h1, _, h'.at_, wr64 (by omega) (bif_dec (fun hbig => ⟨⟨_, h'.bad⟩, h'.frz 2, bad (.inr hbig)⟩) (fun hok => ?_))⟩)
  obtain ⟨N, rfl⟩ := Int.eq_ofNat_of_zero_le (show 0 ≤ n by omega)
  unfold bytR
  rw [if_neg (by rw [hb]; decide), if_neg (by omega)]
  simp only [Int.toNat_natCast]
  have hN : s.1 + N ≤ l.length := by omega
  refine make_buf und27 byte5 (by omega) fun v2 w2 b2 k2 => ?_
  obtain ⟨q2, c2, rfl, hc2, _⟩ := b2.slice
  simp only [List.length_replicate] at *
  have h6 : Rdr w2.drew r l s := h'.kp0 (k2.trans (Kp.refl none_ w2).drew)
  obtain ⟨q', c', g1, g2, g3, g4⟩ := h6.b
  have hlen : ((l.drop s.1)).length = l.length - s.1 := List.length_drop
  refine ⟨_, _, _, rfl, k2.keeps0, _, _, _, g1, _, h6.at_, ⟨by omega, by omega⟩, ?_⟩
  simp only [Int.toNat_natCast]
  rw [← hlen]
  have b3 : Buf w2.drew w.drew.heap.size 5 (.slice q2 N c2) (List.replicate N 0) := b2.kp0 (Kp.refl none_ w2).drew
  have hsr := bytes_from g3 (a := s.1) (by omega) g2
  refine buf_copy und27 byte5 b3 hsr fun w3 b4 k4 => ?_
  have eN : (l.drop s.1).take (List.replicate N (0 : UInt8)).length ++ (List.replicate N (0 : UInt8)).drop (l.drop s.1).length = (l.drop s.1).take N := by
    rw [List.length_replicate, hlen, List.drop_replicate, show N - (l.length - s.1) = 0 by omega, List.replicate_zero, List.append_nil]
  rw [eN] at b4
  have kA : Kp none_ w.drew w3 := ((k2.wide.trans (Kp.refl _ w2).drew).trans k4).narrow (Nat.le_refl _)
  have h7 : Rdr w3 r l s := h'.kp0 kA
  obtain ⟨h8, k8⟩ := h7.setAt hN
  rw [hb] at h8
  have e1 : (s.1 : Int) + (N : Int) = ((s.1 + N : Nat) : Int) := by omega
  have lenN : ((l.drop s.1).take N).length = N := by rw [List.length_take, hlen]; omega
  refine ⟨_, rfl, k4.keeps0, _, h7.at_, wr64 (by omega) ⟨⟨_, h7.at_⟩, h7.frz 1, _, rfl, q2, c2, by rw [lenN], by omega, ?_, ?_, ?_⟩⟩
  · rw [e1]
    refine b4.bytes.kp k8 fun _ a ha hh => ?_
    have hh : a.block = r := hh
    have := (b4.blk a ha).1
    have := h'.lt
    omega
  · rw [e1]
    exact (kd.trans kA.wide).trans k8
  · rw [e1]
    exact h8
end
end Go.Proofs.YtbpknjldphckgaaDoor
