/- LocalBack walked: what is taken is put as it was. -/
import Derived.Test.YtbpknjldphckgaaDoorQp
import Derived.Test.YtbpknjldphckgaaDoorQk
namespace Go.Proofs.YtbpknjldphckgaaDoor
open Go Go.SX Go.SX.Crc Go.Proofs Go.Lib
set_option maxRecDepth 100000
set_option linter.unusedVariables false
set_option linter.unusedSimpArgs false
theorem leN_lt4 (l : List UInt8) : leN (l.take 4) < 4294967296 := leN_lt32 (by rw [List.length_take]; omega)
theorem le4_leN {l : List UInt8} (h : l.length = 4) : le4 (BitVec.ofNat 32 (leN l)) = l := by
  refine (leN4 h ?_).symm
  rw [BitVec.toNat_ofNat, Nat.mod_eq_of_lt]
  have := leN_lt4 l
  rwa [List.take_of_length_le (by omega)] at this
theorem le4_numAt {m : List UInt8} {i : Nat} (h : i + 4 ≤ m.length) : le4 (w32 (numAt m i 4 : Nat)) = (m.drop i).take 4 := by
  unfold w32 numAt
  rw [Int.toNat_natCast]
  exact le4_leN (by rw [List.length_take, List.length_drop]; omega)
theorem ofNat_nlen {m : List UInt8} {i : Nat} (h : i < m.length) : [UInt8.ofNat (nlen m i)] = (m.drop i).take 1 := by
  rw [nlen_eq h, UInt8.ofNat_toNat, List.drop_eq_getElem_cons h, List.take_succ_cons, List.take_zero]
theorem take_cat (m : List UInt8) (i j : Nat) : m.take i ++ (m.drop i).take j = m.take (i + j) := by rw [List.take_add]
theorem headH_read {m : List UInt8} (h1 : m.take 4 = lmbr) (hl : 22 + nlen m 5 ≤ m.length) : headH (readH m).m (readH m).s (readH m).z (readH m).a (readH m).u = m.take (18 + nlen m 5) := by
  have hs : ((m.drop 18).take (nlen m 5)).length = nlen m 5 := by rw [List.length_take, List.length_drop]; omega
  show lmbr ++ [UInt8.ofNat ((nlen m 4 : Nat) : Int).toNat, UInt8.ofNat ((m.drop 18).take (nlen m 5)).length] ++ le4 (w32 (numAt m 6 4 : Nat)) ++ le4 (w32 (numAt m 10 4 : Nat)) ++ le4 (w32 (numAt m 14 4 : Nat)) ++ (m.drop 18).take (nlen m 5) = _
  rw [hs, Int.toNat_natCast, le4_numAt (by omega), le4_numAt (by omega), le4_numAt (by omega), ← h1]
  have e2 : [UInt8.ofNat (nlen m 4), UInt8.ofNat (nlen m 5)] = (m.drop 4).take 1 ++ (m.drop 5).take 1 := by rw [← ofNat_nlen (by omega), ← ofNat_nlen (by omega)]; rfl
  rw [e2, ← List.append_assoc, take_cat, take_cat, take_cat, take_cat, take_cat, take_cat]
/-- What is taken is put as it was. -/
theorem take_put {l : List UInt8} (h0 : (headF l 0).2.2 = 0) : (headF l 0).1.ok = true ∧ (0 ≤ (headF l 0).1.u ∧ (headF l 0).1.u < 4294967296) ∧ ∃ n : Nat, (headF l 0).2.1 = n ∧ n ≤ l.length ∧ (headF l 0).1.b = l.take n := by
  unfold headF at h0 ⊢
  by_cases h : (0 : Int) < 0 ∨ (0 : Int) > l.length
  · omega
  rw [if_neg h] at h0 ⊢
  simp only [Int.toNat_zero, List.drop_zero] at h0 ⊢
  by_cases h1 : 4 ≤ l.length ∧ l.take 4 ≠ lmbr
  · rw [if_pos h1] at h0; exact absurd h0 (by decide)
  rw [if_neg h1] at h0 ⊢
  unfold headG at h0 ⊢
  by_cases h2 : l.length < 18 ∨ l.length < 22 + nlen l 5
  · rw [if_pos h2] at h0; exact absurd h0 (by decide)
  rw [if_neg h2] at h0 ⊢
  by_cases h3 : numAt l (18 + nlen l 5) 4 ≠ (sumL (l.take (18 + nlen l 5))).toNat
  · rw [if_pos h3] at h0; exact absurd h0 (by decide)
  rw [if_neg h3] at h0 ⊢
  by_cases h4 : (readH l).ok = false
  · rw [if_pos h4] at h0; exact absurd h0 (by decide)
  rw [if_neg h4]
  have hm : l.take 4 = lmbr := Classical.byContradiction fun hh => h1 ⟨by omega, hh⟩
  have hu := num_lt l 14
  refine ⟨by simpa using h4, ⟨Int.natCast_nonneg _, by show ((numAt l 14 4 : Nat) : Int) < _; omega⟩, 22 + nlen l 5, by simp, by omega, ?_⟩
  show headH _ _ _ _ _ ++ le4 (sumL (headH _ _ _ _ _)) = _
  rw [headH_read hm (by omega)]
  have h3' : numAt l (18 + nlen l 5) 4 = (sumL (l.take (18 + nlen l 5))).toNat := Classical.byContradiction h3
  have := leN4 (l := (l.drop (18 + nlen l 5)).take 4) (by rw [List.length_take, List.length_drop]; omega) h3'
  rw [← this, take_cat, show 18 + nlen l 5 + 4 = 22 + nlen l 5 by omega]
theorem head_code {l : List UInt8} {a : Int} (h : (headF l a).2.2 ≠ 0) : (headF l a).1 = .zero ∧ (headF l a).2.1 = 0 := by
  unfold headF headG at h ⊢
  split
  · exact ⟨rfl, rfl⟩
  · split
    · exact ⟨rfl, rfl⟩
    · split
      · exact ⟨rfl, rfl⟩
      · split
        · exact ⟨rfl, rfl⟩
        · split
          · exact ⟨rfl, rfl⟩
          · rename_i h1 h2 h3 h4 h5
            rw [if_neg h1, if_neg h2, if_neg h3, if_neg h4, if_neg h5] at h
            exact absurd rfl h
theorem c10 {W : World} (hml : ML W) (m : Int) (s : ByteArray) (z a u : Int) (hu : 0 ≤ u ∧ u < 4294967296) {q1 q2 : Option Addr} {c1 c2 : Nat} {p b : List UInt8} (hp : BytesAt W q1 (ba p)) (hb : BytesAt W q2 (ba b)) (hcp : p.length ≤ c1) (hcb : b.length ≤ c2) : Rets Tryd.prog 10 #[hdV m s z a u, .slice q1 p.length c1, .slice q2 b.length c2] W fun v w' => v = .bool true ∧ Kp none_ W w' := by
  refine ent [_, _, _] Tryd.func10 ((vcTryd10 _ _ _ _ _ _ _ _ _ _ _ W _).mpr ?_)
  unfold VCTryd10
  simp only [set5_def]
  have hss := bytesL_size s
  have ka : Kp none_ W (W.alloc (.cells #[.int .i64 m, .string s, .int .i64 z, .int .i64 a, .int .u32 u] 54)) := (Kp.refl none_ W).alloc1 _
  have B0 : Big (W.alloc (.cells #[.int .i64 m, .string s, .int .i64 z, .int .i64 a, .int .u32 u] 54)) W.heap.size 54 [.int .i64 m, .string s, .int .i64 z, .int .i64 a, .int .u32 u] := Big.new W _ 54
  generalize W.alloc (.cells #[.int .i64 m, .string s, .int .i64 z, .int .i64 a, .int .u32 u] 54) = w0 at *
  have z0 : W.heap.size < w0.heap.size := B0.lt
  have liveK : ∀ {P : World → Prop} {gs : List Nat} {w : World}, Kp none_ w0 w → (∀ g ∈ gs, g < w.heap.size) → Rets Tryd.prog 48 #[] w fun v w' => ∃ t, v = .bool t ∧ Keeps w w' gs ∧ (P w' → ∃ v, Ending.returned (Value.bool t) = Ending.returned v ∧ v = .bool true ∧ Kp none_ W w') := fun k hg => (c48 (hml.kp0 (ka.trans k))).mono (by
    rintro v w' ⟨rfl, k2⟩
    exact ⟨_, rfl, k2.keeps (fun b hb => ⟨hg b hb, id⟩), fun _ => ⟨_, rfl, rfl, (ka.trans k).trans k2⟩⟩)
  have live : ∀ {P : World → Prop} {w : World}, Kp none_ w0 w → Rets Tryd.prog 48 #[] w fun v w' => ∃ t, v = .bool t ∧ Keeps w w' [W.heap.size] ∧ (P w' → ∃ v, Ending.returned (Value.bool t) = Ending.returned v ∧ v = .bool true ∧ Kp none_ W w') := fun k => liveK k (fun g hg => by
    rw [List.mem_singleton] at hg
    subst hg
    exact Nat.lt_of_lt_of_le z0 k.size)
  refine bif_dec (fun _ _ => live (Kp.refl _ _)) (fun hs => bif_dec (fun _ _ => live (Kp.refl _ _)) (fun hn1 => bif_dec (fun _ _ => live (Kp.refl _ _)) (fun hn2 _ => ?_)))
  refine mk_tabK z0 fun w4 w7 k7 t7 _ _ _ => (c49 (hml.kp0 (ka.trans k7)) t7 m s z a u hu).mono ?_
  rintro v w8 ⟨q, n, c, rfl, b8, k8⟩
  have z7 : W.heap.size < w7.heap.size := Nat.lt_of_lt_of_le z0 k7.size
  have k08 := k7.trans k8
  have z8 : W.heap.size < w8.heap.size := Nat.lt_of_lt_of_le z0 k08.size
  have t8 := t7.kp0 k8
  refine ⟨_, _, _, _, rfl, k8.k0 z7, ?_⟩
  cases ho : okHead m (bytesL s) z a u with
  | false =>
    simp only [Bool.false_eq_true, if_false]
    refine bif_eq (fun h => absurd h (by decide)) (fun _ _ => ?_)
    have GB8 : ∀ g ∈ [W.heap.size], g < w8.heap.size := fun g hg => by
      rw [List.mem_singleton] at hg
      subst hg
      exact z8
    refine (c54 (hml.kp0 (ka.trans k08)) t8 (hb.kp0 (ka.trans k08)) hcb (by omega) 0).mono ?_
    rintro v wt ⟨rfl, kt⟩
    have k0t := k08.trans kt
    have gst : ∀ g ∈ [W.heap.size], g < wt.heap.size := fun g hg => Nat.lt_of_lt_of_le (GB8 g hg) kt.size
    refine ⟨_, _, _, _, _, _, _, rfl, kt.keeps (fun b hb => ⟨GB8 b hb, id⟩), ?_⟩
    have gsn : ∀ {v0 v1 v2 v3 v4 : Value} {cs : Array Value} {e : TypeId}, ∀ g ∈ [W.heap.size, wt.heap.size], g < (set5 (wt.alloc (.cells cs e)) wt.heap.size v0 v1 v2 v3 v4).heap.size := fun g hg => by
      simp only [List.mem_cons, List.not_mem_nil, or_false] at hg gst
      first
      | (rcases hg with rfl | rfl
         · exact Nat.lt_trans (gst _ rfl) newset_lt
         · exact newset_lt)
      | (rcases hg with rfl | rfl | rfl
         · exact Nat.lt_trans (gst _ (.inl rfl)) newset_lt
         · exact Nat.lt_trans (gst _ (.inr rfl)) newset_lt
         · exact newset_lt)
    refine bif_ne (fun hne => ?_) (fun he _ => ?_)
    · obtain ⟨e1, e2⟩ := head_code hne
      rw [e1, e2]
      refine ⟨trivial, bif_b (fun _ => bif_eq (fun _ _ => liveK (newset k0t) gsn) (fun h => absurd rfl h)) (fun h => ?_)⟩
      have tl : ((Hd.zero.m == 0) && ((ba Hd.zero.s).toList == ({ data := #[] } : ByteArray).toList && ((Hd.zero.z == 0) && ((Hd.zero.a == 0) && (Hd.zero.u == 0))))) = true := by
        rw [beq_ba]; rfl
      rw [tl] at h; cases h
    · obtain ⟨gok, gu, N, eN, hN, eB⟩ := take_put he
      rw [eN]
      generalize (headF b 0).1 = G at *
      have kn := newset (v0 := .int .i64 G.m) (v1 := .string (ba G.s)) (v2 := .int .i64 G.z) (v3 := .int .i64 G.a) (v4 := .int .u32 G.u) (cs := #[.int .i64 0, .string { data := #[] }, .int .i64 0, .int .i64 0, .int .u32 0]) (e := 54) (Kp.refl none_ wt)
      have gs2 := gsn (v0 := .int .i64 G.m) (v1 := .string (ba G.s)) (v2 := .int .i64 G.z) (v3 := .int .i64 G.a) (v4 := .int .u32 G.u) (cs := #[.int .i64 0, .string { data := #[] }, .int .i64 0, .int .i64 0, .int .u32 0]) (e := 54)
      clear gsn
      generalize set5 (wt.alloc (.cells #[.int .i64 0, .string { data := #[] }, .int .i64 0, .int .i64 0, .int .u32 0] 54)) wt.heap.size (.int .i64 G.m) (.string (ba G.s)) (.int .i64 G.z) (.int .i64 G.a) (.int .u32 G.u) = wn at *
      have k0n := k0t.trans kn
      refine (c49 (hml.kp0 (ka.trans k0n)) ((t8.kp0 kt).kp0 kn) G.m (ba G.s) G.z G.a G.u gu).mono ?_
      rw [show bytesL (ba G.s) = G.s from ba_list _, show okHead G.m G.s G.z G.a G.u = true from gok]
      simp only [if_true]
      rintro v w2 ⟨q', n', c', rfl, b', k'⟩
      have b' : Buf w2 wn.heap.size 5 (.slice q' n' c') G.b := b'
      rw [eB] at b'
      obtain ⟨rfl, hc', _⟩ := b'.lens
      have k02 := k0n.trans k'
      have kd : Kp none_ w2 w2.drew := Kp.drew1
      have emin : minI (N : Int) (b.length : Int) = N := by unfold minI; split <;> omega
      have hbN : BytesAt w2.drew (cutA q2 c2 0 1) (ba (b.take N)) := by
        have := bytes_drop ((hb.kp0 (ka.trans k02)).kp0 kd) (a := 0) (k := N) (by omega) hcb
        rwa [List.drop_zero] at this
      rw [emin]
      refine ⟨_, _, _, _, rfl, k'.keeps (fun b hb => ⟨gs2 b hb, id⟩), bif_eq (fun _ => ⟨ba (b.take N), ba_size _, (b'.kp0 kd).bytes, ⟨by omega, by omega⟩, ba (b.take N), by rw [ba_size, List.length_take]; omega, hbN, bif_b (fun _ _ => liveK (k02.trans kd) (fun g hg => Nat.lt_of_lt_of_le (gs2 g hg) k'.size)) (fun h => ?_)⟩) (fun h => absurd rfl h)⟩
      simp at h
  | true =>
    rw [ho] at b8
    simp only [if_true] at b8 ⊢
    obtain ⟨rfl, hcap⟩ := b8.lens
    obtain ⟨hok, hm0, hm2, hz1, hz2, ha1, ha2⟩ := okHead_facts ho
    have hle := okName_len hok
    obtain ⟨h, eh⟩ : ∃ h : Hd, h = ⟨m, bytesL s, z, a, u⟩ := ⟨_, rfl⟩
    have e1 : headB m (bytesL s) z a u = h.b := by rw [eh]; rfl
    have ehs : h.s = bytesL s := by rw [eh]
    have hhok : h.ok = true := by rw [eh]; exact ho
    have hhu : 0 ≤ h.u ∧ h.u < 4294967296 := by rw [eh]; exact hu
    rw [e1] at b8 ⊢
    have hlb := hd_len h
    rw [ehs] at hlb
    refine bif_eq (fun _ => ?_) (fun h => absurd rfl h)
    refine lit_buf und27 byte5 fun v9 w9 b9 k9 => ?_
    obtain ⟨q9, c9, rfl, _, _⟩ := b9.slice
    have k89 : Kp (fun i => w8.heap.size ≤ i) w8 w9 := k9.wide
    refine ⟨_, _, _, rfl, k9.k0 z8, buf_app und27 byte5 b9 k89.size rfl (hp.kp0 ((ka.trans k08).trans k9)) (by simp; omega) fun v10 w10 b10 k10 => ?_⟩
    rw [List.nil_append] at b10
    obtain ⟨q10, c10, rfl, _, _⟩ := b10.slice
    have k810 := k89.trans k10
    refine ⟨_, _, _, rfl, k10.ks z8 (Nat.lt_of_lt_of_le z8 k89.size), buf_app und27 byte5 b10 k810.size rfl (b8.bytes.far k810 (Nat.le_refl _)) (by omega) fun v11 w11 b11 k11 => ?_⟩
    obtain ⟨q11, c11, rfl, _, _⟩ := b11.slice
    have k811 := k810.trans k11
    refine ⟨_, _, _, rfl, k11.ks z8 (Nat.lt_of_lt_of_le z8 k810.size), buf_app und27 byte5 b11 k811.size rfl ((hb.kp0 (ka.trans k08)).far k811 (Nat.le_refl _)) (by rw [List.length_append]; omega) fun v12 w12 b12 k12 => ?_⟩
    obtain ⟨q12, c12, rfl, hc12, _⟩ := b12.slice
    have k812 : Kp none_ w8 w12 := (k811.trans k12).narrow (Nat.le_refl _)
    have k012 := k08.trans k812
    have hal : (p ++ h.b ++ b).length ≤ 1000000 := by simp only [List.length_append]; omega
    have z12 : W.heap.size < w12.heap.size := Nat.lt_of_lt_of_le z0 k012.size
    refine ⟨_, _, _, rfl, k12.ks z8 (Nat.lt_of_lt_of_le z8 k811.size), fun _ => (c54 (hml.kp0 (ka.trans k012)) (t8.kp0 k812) b12.bytes hc12 hal p.length).mono ?_⟩
    rw [headF_put hhok hhu p b]
    rintro v w13 ⟨rfl, k13⟩
    have k013 := k012.trans k13
    have t13 := (t8.kp0 k812).kp0 k13
    refine ⟨_, _, _, _, _, _, _, rfl, k13.k0 z12, bif_ne (fun h => absurd rfl h) (fun _ => ⟨trivial, bif_not (fun hh => ?_) (fun _ => wr64 (by omega) (bif_ne (fun hh => absurd (by show (p.length : Int) + ((22 + h.s.length : Nat) : Int) = _; rw [ehs]; omega) hh) (fun _ _ => ?_)))⟩)⟩
    · rw [eh] at hh
      rw [beq_ba] at hh
      simp at hh
    have kn := newset (v0 := .int .i64 h.m) (v1 := .string (ba h.s)) (v2 := .int .i64 h.z) (v3 := .int .i64 h.a) (v4 := .int .u32 h.u) (cs := #[.int .i64 0, .string { data := #[] }, .int .i64 0, .int .i64 0, .int .u32 0]) (e := 54) (Kp.refl none_ w13)
    have zn : w13.heap.size < (set5 (w13.alloc (.cells #[.int .i64 0, .string { data := #[] }, .int .i64 0, .int .i64 0, .int .u32 0] 54)) w13.heap.size (.int .i64 h.m) (.string (ba h.s)) (.int .i64 h.z) (.int .i64 h.a) (.int .u32 h.u)).heap.size := newset_lt
    generalize set5 (w13.alloc (.cells #[.int .i64 0, .string { data := #[] }, .int .i64 0, .int .i64 0, .int .u32 0] 54)) w13.heap.size (.int .i64 h.m) (.string (ba h.s)) (.int .i64 h.z) (.int .i64 h.a) (.int .u32 h.u) = w14 at *
    have k014 := k013.trans kn
    have t14 := t13.kp0 kn
    have GB14 : ∀ g ∈ [W.heap.size, w13.heap.size], g < w14.heap.size := fun g hg => by
      simp only [List.mem_cons, List.not_mem_nil, or_false] at hg
      rcases hg with rfl | rfl
      · exact Nat.lt_of_lt_of_le z0 k014.size
      · exact zn
    refine (c54 (hml.kp0 (ka.trans k014)) t14 (hb.kp0 (ka.trans k014)) hcb (by omega) 0).mono ?_
    rintro v wt ⟨rfl, kt⟩
    have k0t := k014.trans kt
    have gst : ∀ g ∈ [W.heap.size, w13.heap.size], g < wt.heap.size := fun g hg => Nat.lt_of_lt_of_le (GB14 g hg) kt.size
    refine ⟨_, _, _, _, _, _, _, rfl, kt.keeps (fun b hb => ⟨GB14 b hb, id⟩), ?_⟩
    have gsn : ∀ {v0 v1 v2 v3 v4 : Value} {cs : Array Value} {e : TypeId}, ∀ g ∈ [W.heap.size, w13.heap.size, wt.heap.size], g < (set5 (wt.alloc (.cells cs e)) wt.heap.size v0 v1 v2 v3 v4).heap.size := fun g hg => by
      simp only [List.mem_cons, List.not_mem_nil, or_false] at hg gst
      first
      | (rcases hg with rfl | rfl
         · exact Nat.lt_trans (gst _ rfl) newset_lt
         · exact newset_lt)
      | (rcases hg with rfl | rfl | rfl
         · exact Nat.lt_trans (gst _ (.inl rfl)) newset_lt
         · exact Nat.lt_trans (gst _ (.inr rfl)) newset_lt
         · exact newset_lt)
    refine bif_ne (fun hne => ?_) (fun he _ => ?_)
    · obtain ⟨e1, e2⟩ := head_code hne
      rw [e1, e2]
      refine ⟨trivial, bif_b (fun _ => bif_eq (fun _ _ => liveK (newset k0t) gsn) (fun h => absurd rfl h)) (fun h => ?_)⟩
      have tl : ((Hd.zero.m == 0) && ((ba Hd.zero.s).toList == ({ data := #[] } : ByteArray).toList && ((Hd.zero.z == 0) && ((Hd.zero.a == 0) && (Hd.zero.u == 0))))) = true := by
        rw [beq_ba]; rfl
      rw [tl] at h; cases h
    · obtain ⟨gok, gu, N, eN, hN, eB⟩ := take_put he
      rw [eN]
      generalize (headF b 0).1 = G at *
      have kn := newset (v0 := .int .i64 G.m) (v1 := .string (ba G.s)) (v2 := .int .i64 G.z) (v3 := .int .i64 G.a) (v4 := .int .u32 G.u) (cs := #[.int .i64 0, .string { data := #[] }, .int .i64 0, .int .i64 0, .int .u32 0]) (e := 54) (Kp.refl none_ wt)
      have gs2 := gsn (v0 := .int .i64 G.m) (v1 := .string (ba G.s)) (v2 := .int .i64 G.z) (v3 := .int .i64 G.a) (v4 := .int .u32 G.u) (cs := #[.int .i64 0, .string { data := #[] }, .int .i64 0, .int .i64 0, .int .u32 0]) (e := 54)
      clear gsn
      generalize set5 (wt.alloc (.cells #[.int .i64 0, .string { data := #[] }, .int .i64 0, .int .i64 0, .int .u32 0] 54)) wt.heap.size (.int .i64 G.m) (.string (ba G.s)) (.int .i64 G.z) (.int .i64 G.a) (.int .u32 G.u) = wn at *
      have k0n := k0t.trans kn
      refine (c49 (hml.kp0 (ka.trans k0n)) ((t14.kp0 kt).kp0 kn) G.m (ba G.s) G.z G.a G.u gu).mono ?_
      rw [show bytesL (ba G.s) = G.s from ba_list _, show okHead G.m G.s G.z G.a G.u = true from gok]
      simp only [if_true]
      rintro v w2 ⟨q', n', c', rfl, b', k'⟩
      have b' : Buf w2 wn.heap.size 5 (.slice q' n' c') G.b := b'
      rw [eB] at b'
      obtain ⟨rfl, hc', _⟩ := b'.lens
      have k02 := k0n.trans k'
      have kd : Kp none_ w2 w2.drew := Kp.drew1
      have emin : minI (N : Int) (b.length : Int) = N := by unfold minI; split <;> omega
      have hbN : BytesAt w2.drew (cutA q2 c2 0 1) (ba (b.take N)) := by
        have := bytes_drop ((hb.kp0 (ka.trans k02)).kp0 kd) (a := 0) (k := N) (by omega) hcb
        rwa [List.drop_zero] at this
      rw [emin]
      refine ⟨_, _, _, _, rfl, k'.keeps (fun b hb => ⟨gs2 b hb, id⟩), bif_eq (fun _ => ⟨ba (b.take N), ba_size _, (b'.kp0 kd).bytes, ⟨by omega, by omega⟩, ba (b.take N), by rw [ba_size, List.length_take]; omega, hbN, bif_b (fun _ _ => liveK (k02.trans kd) (fun g hg => Nat.lt_of_lt_of_le (gs2 g hg) k'.size)) (fun h => ?_)⟩) (fun h => absurd rfl h)⟩
      simp at h
end Go.Proofs.YtbpknjldphckgaaDoor
