/- Index: Get, Put, Drop, New. -/
import Derived.Test.YtbpknjldphckgaaDoorIc
namespace Go.Proofs.YtbpknjldphckgaaDoor
open Go Go.SX Go.Proofs Go.Lib
set_option maxRecDepth 100000
set_option linter.unusedVariables false
set_option linter.unusedSimpArgs false
def mb0 : Mb := ⟨[], 0, 0, 0, 0, 0, 0⟩
/-- What Get tells. -/
def getM (l : List Mb) (s : List UInt8) : Mb × Bool := if has kM l s = true then ((l[pos kM l s]?).getD mb0, true) else (mb0, false)
theorem getM_has {l : List Mb} (ha : Asc kM l) {s : List UInt8} (hh : has kM l s = true) : ∃ hp : pos kM l s < l.length, getM l s = (l[pos kM l s], true) := by
  obtain ⟨hp, _⟩ := has_get ha hh
  exact ⟨hp, by unfold getM; rw [if_pos hh, List.getElem?_eq_getElem hp]; rfl⟩
theorem c73 {w : World} {O : Nat → Prop} {b : Nat} {l : List Mb} (h : IxAt w O b l) (ha : Asc kM l) (hl : l.length ≤ 1000000) (s : ByteArray) : Rets Tryd.prog 73 #[.pointer (some ⟨b, 0, none⟩), .string s] w fun v w' =>
    v = .tuple #[mbV (getM l (bytesL s)).1, .bool (getM l (bytesL s)).2] ∧ Kp none_ w w' := by
  refine ent [_, _] Tryd.func73 ((vcTryd73 _ _ w _).mpr ?_)
  unfold VCTryd73
  simp only [set7_def]
  refine bif_b (fun hn => by cases hn) (fun _ _ => ?_)
  have k0 : Kp none_ w (w.alloc (.cells #[.string { data := #[] }, .int .i64 0, .int .i64 0, .int .i64 0, .int .i64 0, .int .u32 0, .int .i64 0] 50)) := (Kp.refl none_ w).alloc1 _
  have z0 : w.heap.size < (w.alloc (.cells #[.string { data := #[] }, .int .i64 0, .int .i64 0, .int .i64 0, .int .i64 0, .int .u32 0, .int .i64 0] 50)).heap.size := by rw [alloc_size]; omega
  generalize w.alloc (.cells #[.string { data := #[] }, .int .i64 0, .int .i64 0, .int .i64 0, .int .i64 0, .int .u32 0, .int .i64 0] 50) = w0 at *
  refine (c129 (h.kp0 k0) ha hl s).mono ?_
  rintro v w1 ⟨rfl, k1⟩
  have fin : ∀ v0 v1 v2 v3 v4 v5 v6, Kp none_ w (set7 w1 w.heap.size v0 v1 v2 v3 v4 v5 v6) := fun v0 v1 v2 v3 v4 v5 v6 => ((k0.trans k1).wide.trans (kpE (kp_set7 w1 w.heap.size v0 v1 v2 v3 v4 v5 v6) (Nat.le_refl _))).narrow (Nat.le_refl _)
  refine ⟨_, _, rfl, k1.k0 z0, bif_not (fun hh _ => ⟨_, rfl, ?_, fin _ _ _ _ _ _ _⟩) (fun hh => ?_)⟩
  · have : getM l (bytesL s) = (mb0, false) := by unfold getM; rw [if_neg (by rw [hh]; decide)]
    rw [this]; rfl
  · obtain ⟨hp, hg⟩ := getM_has ha hh
    obtain ⟨q, c, hc, hr⟩ := (h.kp0 (k0.trans k1)).row
    rw [ptr_some, add0]
    refine ⟨_, _, _, hc, ⟨by omega, by omega⟩, mem_at (mems_of hr) hp fun x _ mx => ⟨_, _, _, _, _, _, _, ⟨mx.c0, mx.c1, mx.c2, mx.c3, mx.c4, mx.c5, mx.c6, trivial⟩, fun _ => ⟨_, rfl, ?_, fin _ _ _ _ _ _ _⟩⟩⟩
    rw [hg]; rfl
/-- What Put tells, and what it leaves behind. -/
def putErr (l : List Mb) (m : Mb) : Int := if okMb m = false then 1 else if (has kM l m.s || decide (l.length < 200)) = false then 14 else 0
def putL (l : List Mb) (m : Mb) : List Mb := if putErr l m = 0 then withK kM l m.s m else l
theorem mems_set : ∀ (l : List Mb) (i : Nat) (b : Mb), i < l.length → memsC (l.set i b) = ((((((((memsC l).set (i * 7 + 0) (.string (ba b.s))).set (i * 7 + 1) (.int .i64 b.a)).set (i * 7 + 2) (.int .i64 b.f)).set (i * 7 + 3) (.int .i64 b.r)).set (i * 7 + 4) (.int .i64 b.z)).set (i * 7 + 5) (.int .u32 b.u)).set (i * 7 + 6) (.int .i64 b.m))
  | [], i, b, h => by simp at h
  | x :: r, 0, b, _ => by simp [memsC, mbC]
  | x :: r, i + 1, b, h => by
    have ih := mems_set r i b (by simpa using h)
    have hl : (mbC x).length = 7 := rfl
    rw [List.set_cons_succ, memsC, memsC, ih]
    have e : ∀ k, (i + 1) * 7 + k = (mbC x).length + (i * 7 + k) := fun k => by rw [hl]; omega
    have ap : ∀ (L : List Value) k v, (mbC x ++ L).set ((mbC x).length + k) v = mbC x ++ L.set k v := fun L k v => by
      rw [List.set_append_right _ _ (by omega)]
      congr 2
      omega
    rw [e 0, e 1, e 2, e 3, e 4, e 5, e 6, ap, ap, ap, ap, ap, ap, ap]
theorem IxAt.cut {O : Nat → Prop} {w : World} {b : Nat} {l : List Mb} (h : IxAt w O b l) : IxAt w (fun i => O i ∧ i < w.heap.size) b l := h.mono fun i hl hi => ⟨hi, hl⟩
theorem c74 {w : World} (hml : ML w) {O : Nat → Prop} {b : Nat} {l : List Mb} (h0 : IxAt w O b l) (ha : Asc kM l) (hl : l.length ≤ 1000000) (m : Mb) (hms : m.s.length ≤ 1000000) : Rets Tryd.prog 74 #[.pointer (some ⟨b, 0, none⟩), mbV m] w fun v w' =>
    v = .int .i64 (putErr l m) ∧ IxAt w' (fun i => O i ∨ fresh w i) b (putL l m) ∧ Kp O w w' := by
  refine ent [_, _] Tryd.func74 ((vcTryd74 _ _ _ _ _ _ _ _ w _).mpr ?_)
  unfold VCTryd74
  have h := h0.cut
  refine bif_b (fun hn => by cases hn) (fun _ _ => ?_)
  have k0 : Kp none_ w (w.alloc (.cells #[.string (ba m.s), .int .i64 m.a, .int .i64 m.f, .int .i64 m.r, .int .i64 m.z, .int .u32 m.u, .int .i64 m.m] 50)) := (Kp.refl none_ w).alloc1 _
  have z0 : w.heap.size < (w.alloc (.cells #[.string (ba m.s), .int .i64 m.a, .int .i64 m.f, .int .i64 m.r, .int .i64 m.z, .int .u32 m.u, .int .i64 m.m] 50)).heap.size := by rw [alloc_size]; omega
  generalize w.alloc (.cells #[.string (ba m.s), .int .i64 m.a, .int .i64 m.f, .int .i64 m.r, .int .i64 m.z, .int .u32 m.u, .int .i64 m.m] 50) = w0 at *
  have no : ∀ {w' : World} {e : Int}, Kp none_ w w' → putErr l m = e → e ≠ 0 → ∃ v, Ending.returned (.int .i64 e) = Ending.returned v ∧ v = .int .i64 (putErr l m) ∧ IxAt w' (fun i => O i ∨ fresh w i) b (putL l m) ∧ Kp O w w' := fun {w' e} k e1 e2 => by
    refine ⟨_, rfl, by rw [e1], ?_, k.wide⟩
    unfold putL
    rw [if_neg (by rw [e1]; exact e2)]
    exact h0.kp k fun i _ hi => ⟨id, .inl hi⟩
  refine (c44 (hml.kp0 k0) m hms).mono ?_
  rintro v w1 ⟨rfl, k1⟩
  have K1 := k0.trans k1
  have z1 := Nat.lt_of_lt_of_le z0 k1.size
  refine ⟨_, rfl, k1.k0 z0, bif_not (fun hok _ => no K1 (by unfold putErr; rw [if_pos hok]) (by decide)) (fun hok _ => (c80 (h.kp0 K1) ha hl (ba m.s)).mono ?_)⟩
  rw [bytesL_ba]
  rintro v w2 ⟨rfl, k2⟩
  have K2 := K1.trans k2
  have z2 := Nat.lt_of_lt_of_le z1 k2.size
  refine ⟨_, rfl, k2.k0 z1, bif_not (fun hrm _ => no K2 (by unfold putErr; rw [if_neg (by rw [hok]; decide), if_pos hrm]) (by decide)) (fun hrm _ => (c129 (h.kp0 K2) ha hl (ba m.s)).mono ?_)⟩
  rw [bytesL_ba]
  have e0 : putErr l m = 0 := by unfold putErr; rw [if_neg (by rw [hok]; decide), if_neg (by rw [hrm]; decide)]
  have eL : putL l m = withK kM l m.s m := by unfold putL; rw [if_pos e0]
  rw [e0, eL]
  rintro v w3 ⟨rfl, k3⟩
  have K3 := K2.trans k3
  have z3 := Nat.lt_of_lt_of_le z2 k3.size
  have h3 := h.kp0 K3.drew
  obtain ⟨q, c, hc, hr⟩ := h3.row
  refine ⟨_, _, rfl, k3.k0 z2, bif_b (fun hh => ?_) (fun hh => ?_)⟩
  · obtain ⟨hp, _⟩ := has_get ha hh
    obtain ⟨g, rfl⟩ := row_some hr (by omega)
    rw [ptr_some, add0]
    refine ⟨_, _, _, hc, ⟨by omega, by omega⟩, ?_⟩
    rw [ptr_some]
    simp only [ad_add, Int.toNat_natCast, Nat.zero_add]
    generalize hpp : pos kM l m.s = p at *
    have hlen : (memsC l).length = l.length * 7 := memsC_len l
    obtain ⟨hog, u0, f0, s0⟩ := hr.setCell (k := p * 7 + 0) (by omega)
    have ap : ∀ k, Apart ⟨g, k, none⟩ w.heap.size [0, 1, 2, 3, 4, 5, 6] := fun k => .inl (by
      have : g < w.heap.size := hog.1.2
      show g ≠ w.heap.size
      omega)
    obtain ⟨r0, kk0⟩ := s0 (.string (ba m.s))
    obtain ⟨_, u1, f1, s1⟩ := r0.setCell (k := p * 7 + 1) (by simp only [List.length_set]; omega)
    obtain ⟨r1, kk1⟩ := s1 (.int .i64 m.a)
    obtain ⟨_, u2, f2, s2⟩ := r1.setCell (k := p * 7 + 2) (by simp only [List.length_set]; omega)
    obtain ⟨r2, kk2⟩ := s2 (.int .i64 m.f)
    obtain ⟨_, u3, f3, s3⟩ := r2.setCell (k := p * 7 + 3) (by simp only [List.length_set]; omega)
    obtain ⟨r3, kk3⟩ := s3 (.int .i64 m.r)
    obtain ⟨_, u4, f4, s4⟩ := r3.setCell (k := p * 7 + 4) (by simp only [List.length_set]; omega)
    obtain ⟨r4, kk4⟩ := s4 (.int .i64 m.z)
    obtain ⟨_, u5, f5, s5⟩ := r4.setCell (k := p * 7 + 5) (by simp only [List.length_set]; omega)
    obtain ⟨r5, kk5⟩ := s5 (.int .u32 m.u)
    obtain ⟨_, u6, f6, s6⟩ := r5.setCell (k := p * 7 + 6) (by simp only [List.length_set]; omega)
    obtain ⟨r6, kk6⟩ := s6 (.int .i64 m.m)
    have KK := (((((kk0.trans kk1).trans kk2).trans kk3).trans kk4).trans kk5).trans kk6
    rw [← mems_set l p m hp] at r6
    refine ⟨u0, f0, ap _, u1, f1, ap _, u2, f2, ap _, u3, f3, ap _, u4, f4, ap _, u5, f5, ap _, u6, f6, ap _, fun _ => ⟨_, rfl, rfl, ?_, (K3.drew.wide.trans KK).mono fun i _ hi => hi.1.1⟩⟩
    rw [withK_has ha m hh, hpp]
    have hl2 : (l.set p m).length = l.length := List.length_set
    refine ⟨⟨some ⟨g, 0, none⟩, c, KK.cell ?_ (fun hb => hb.2 rfl), ?_⟩, (KK.frz ⟨b, 0, none⟩ h3.lt).trans h3.frz, .inl h0.own⟩
    · rw [hl2]; exact hc
    · rw [hl2]
      exact r6.mono fun i hi _ => ⟨.inl hi.1.1, hi.2⟩
  · rw [ptr_some, add0]
    have k4 : Kp none_ w3.drew (w3.drew.alloc (.cells #[.string (ba m.s), .int .i64 m.a, .int .i64 m.f, .int .i64 m.r, .int .i64 m.z, .int .u32 m.u, .int .i64 m.m] 50)) := (Kp.refl none_ _).alloc1 _
    have B4 : Big (w3.drew.alloc (.cells #[.string (ba m.s), .int .i64 m.a, .int .i64 m.f, .int .i64 m.r, .int .i64 m.z, .int .u32 m.u, .int .i64 m.m] 50)) w3.drew.heap.size 50 (mbC m) := Big.new _ _ 50
    generalize w3.drew.alloc (.cells #[.string (ba m.s), .int .i64 m.a, .int .i64 m.f, .int .i64 m.r, .int .i64 m.z, .int .u32 m.u, .int .i64 m.m] 50) = w4 at *
    have K4 := K3.drew.trans k4
    have hr4 := hr.kp k4 fun _ _ _ _ _ => id
    have z4 : w.heap.size < w4.heap.size := Nat.lt_of_lt_of_le z3 k4.size
    have hle := pos_le (k := kM) l m.s
    refine ⟨_, _, _, hc, k4.cell0 hc, fun _ => (c130 (i := pos kM l m.s) hr4 hle B4 (fun hx => by
      have h1 : w3.heap.size < w.heap.size := hx.1.2
      have := K3.size
      omega) hl).mono ?_⟩
    rintro v w5 ⟨q', c', rfl, r5, k5⟩
    have hb5 : w5.cell? ⟨b, 0, none⟩ = some (.slice q l.length c) := k5.cell (k4.cell0 hc) fun hx => hx.2 rfl
    have fb5 : w5.frozen? ⟨b, 0, none⟩ = false := (k5.frz ⟨b, 0, none⟩ (Nat.lt_of_lt_of_le h3.lt k4.size)).trans ((k4.frz ⟨b, 0, none⟩ h3.lt).trans h3.frz)
    have K5 : Kp O w w5 := (K4.wide.trans k5).mono (S := fun i => (O i ∧ i < w.heap.size) ∧ i ≠ b) fun i _ hi => hi.1.1
    refine ⟨_, _, _, rfl, kso k5 (fun hx => Nat.lt_irrefl _ hx.1.2) z4, ?_⟩
    rw [ptr_some, add0, add0]
    refine ⟨⟨_, hb5⟩, fb5, .inl (by have := h0.lt; show b ≠ w.heap.size; omega), fun _ => ⟨_, rfl, rfl, ?_, K5.trans ((Kp.set1 b _).mono fun i _ hi => by have hi : i = b := hi; rw [hi]; exact h0.own)⟩⟩
    rw [withK_not ha m hh]
    have el : (l.take (pos kM l m.s) ++ m :: l.drop (pos kM l m.s)).length = l.length + 1 := by
      simp only [List.length_append, List.length_take, List.length_cons, List.length_drop]; omega
    refine ⟨⟨q', c', ?_, ?_⟩, by rw [frozen_set]; exact fb5, .inl h0.own⟩
    · rw [el]; exact cell_set_same _ hb5
    · rw [el]
      refine (r5.mono (own' := fun i => (O i ∨ fresh w i) ∧ i ≠ b) fun i hi hlt => ?_).kp (Kp.set1 b _) fun g n cap _ hg hb => hg.2 hb
      rcases hi with hi | hi
      · exact ⟨.inl hi.1.1, hi.2⟩
      · have hi : w4.heap.size ≤ i := hi
        have := h0.lt
        exact ⟨.inr (by show w.heap.size ≤ i; omega), by omega⟩
theorem c75 {w : World} {O : Nat → Prop} {b : Nat} {l : List Mb} (h0 : IxAt w O b l) (ha : Asc kM l) (hl : l.length ≤ 1000000) (s : ByteArray) : Rets Tryd.prog 75 #[.pointer (some ⟨b, 0, none⟩), .string s] w fun v w' =>
    v = .bool (has kM l (bytesL s)) ∧ IxAt w' O b (withoutK kM l (bytesL s)) ∧ Kp O w w' := by
  refine ent [_, _] Tryd.func75 ((vcTryd75 _ _ w _).mpr ?_)
  unfold VCTryd75
  refine bif_b (fun hn => by cases hn) (fun _ => (c129 h0 ha hl s).mono ?_)
  rintro v w1 ⟨rfl, k1⟩
  have h1 := h0.kp0 k1
  refine ⟨_, _, rfl, k1.keeps0, bif_b (fun hh => ?_) (fun hh => ⟨_, rfl, rfl, ?_, k1.wide⟩)⟩
  · obtain ⟨hp, _⟩ := has_get ha hh
    obtain ⟨q, c, hc, hr⟩ := h1.row
    rw [ptr_some, add0]
    refine ⟨_, _, _, hc, wr64 (by omega) ?_⟩
    have e1 : ((pos kM l (bytesL s) : Nat) : Int) + 1 = ((pos kM l (bytesL s) + 1 : Nat) : Int) := by omega
    rw [e1]
    refine (c131 hr hp).mono ?_
    rintro v w2 ⟨q', c', rfl, r2, k2⟩
    have hb2 : w2.cell? ⟨b, 0, none⟩ = some (.slice q l.length c) := k2.cell hc fun hx => hx.2 rfl
    have fb2 : w2.frozen? ⟨b, 0, none⟩ = false := (k2.frz ⟨b, 0, none⟩ h1.lt).trans h1.frz
    refine ⟨_, _, _, rfl, k2.keeps0, ?_⟩
    rw [ptr_some, add0, add0]
    have el : (withoutK kM l (bytesL s)).length = l.length - 1 := by
      rw [withoutK_eq ha, if_pos hh]
      simp only [List.length_append, List.length_take, List.length_drop]; omega
    refine ⟨⟨_, hb2⟩, fb2, _, rfl, by rw [hh], ⟨⟨q', c', ?_, ?_⟩, by rw [frozen_set]; exact fb2, h0.own⟩, (k1.wide.trans (k2.mono fun i _ hi => hi.1)).trans ((Kp.set1 b _).mono fun i _ hi => by have hi : i = b := hi; rw [hi]; exact h0.own)⟩
    · rw [el]; exact cell_set_same _ hb2
    · rw [el, withoutK_eq ha, if_pos hh]
      exact r2.kp (Kp.set1 b _) fun g n cap _ hg hb => hg.2 hb
  · rw [withoutK_eq ha, if_neg (by rw [hh]; decide)]; exact h1
/-- A new index. -/
theorem c67 {w : World} (hml : ML w) {q : Option Addr} {c : Nat} {l : List Mb} (h : MemsAt w q l) (hs : ∀ b ∈ l, b.s.length ≤ 1000000) (hl : l.length ≤ 1000000) : Rets Tryd.prog 67 #[.slice q l.length c] w fun v w' =>
    Kp none_ w w' ∧ ((okDir l = false ∧ v = .tuple #[.pointer none, .int .i64 1]) ∨ (okDir l = true ∧ ∃ b, w.heap.size ≤ b ∧ v = .tuple #[.pointer (some ⟨b, 0, none⟩), .int .i64 0] ∧ IxAt w' (fun i => w.heap.size ≤ i) b l)) := by
  refine ent [_] Tryd.func67 ((vcTryd67 _ _ _ w _).mpr ?_)
  unfold VCTryd67
  refine (c43 hml h hs).mono ?_
  rintro v w1 ⟨rfl, k1⟩
  refine ⟨_, rfl, k1.keeps0, bif_not (fun hk => ⟨_, rfl, k1, .inl ⟨hk, rfl⟩⟩) (fun hk => (c124 (h.kp0 k1) hl).mono ?_)⟩
  rintro v w2 ⟨q', c', rfl, r2, k2⟩
  have hz := k1.size
  have hz2 := k2.size
  refine ⟨_, _, _, rfl, k2.keeps0, fun _ => ⟨_, rfl, (k1.trans k2).alloc1 _, .inr ⟨hk, w2.heap.size, by omega, rfl, ⟨⟨q', c', cell_alloc_new rfl, ?_⟩, ?_, by show w.heap.size ≤ w2.heap.size; omega⟩⟩⟩⟩
  · refine (r2.mono (own' := fun i => (w.heap.size ≤ i) ∧ i ≠ w2.heap.size) fun i hi hlt => ⟨Nat.le_trans hz hi, by omega⟩).kp ((Kp.refl none_ _).alloc1 _) fun _ _ _ _ _ => id
  · exact (Cel.new w2 (.slice q' l.length c') 103).frz
end Go.Proofs.YtbpknjldphckgaaDoor
