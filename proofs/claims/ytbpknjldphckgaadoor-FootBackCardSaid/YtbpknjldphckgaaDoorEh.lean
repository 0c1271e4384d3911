/- A directory, taken; EntrySames walked. -/
import Derived.Test.YtbpknjldphckgaaDoorEf
namespace Go.Proofs.YtbpknjldphckgaaDoor
open Go Go.SX Go.SX.Crc Go.Proofs Go.Lib
set_option maxRecDepth 100000
set_option linter.unusedVariables false
set_option linter.unusedSimpArgs false
theorem Rdr.above {w w' : World} {r : Nat} {l : List UInt8} {s : Nat × Bool} (h : Rdr w r l s) (k : Kp (fun i => r < i) w w') : Rdr w' r l s := by
  obtain ⟨q, c, h1, h2, h3, h4⟩ := h.b
  have nb : ¬ (r < r) := Nat.lt_irrefl r
  exact ⟨⟨q, c, k.cell h1 nb, h2, h3.kp k (fun h0 x hx hh => by have := h4 (by rwa [ba_size] at h0) x hx; omega), h4⟩, k.cell h.at_ nb, k.cell h.bad nb, fun o => (k.frz ⟨r, o, none⟩ h.lt).trans (h.frz o), h.le⟩
/-- All that a reader reads of so many members. -/
def rdAll (m : List UInt8) : Nat → List Mb × Nat × Bool
  | 0 => ([], 0, false)
  | n + 1 => ((rdAll m n).1 ++ [(rdOne m (rdAll m n).2).1], (rdOne m (rdAll m n).2).2)
theorem rdAll_len (m : List UInt8) : ∀ n, (rdAll m n).1.length = n
  | 0 => rfl
  | n + 1 => by rw [rdAll, List.length_append, rdAll_len m n]; rfl
theorem rdAll_names (m : List UInt8) : ∀ n, ∀ b ∈ (rdAll m n).1, b.s.length ≤ m.length
  | 0 => fun b hb => by cases hb
  | n + 1 => fun b hb => by
    rw [rdAll] at hb
    rcases List.mem_append.1 hb with h | h
    · exact rdAll_names m n b h
    · rw [List.mem_singleton] at h
      subst h
      exact bytR_len _ _ _
/-- The directory of bytes: the members, the error. -/
def takeD (l : List UInt8) (n : Int) : List Mb × Int :=
  if ¬ (0 ≤ n ∧ n ≤ 200) then ([], 14) else
  if (rdAll l n.toNat).2.2 = true then ([], 2) else
  if (rdAll l n.toNat).2.1 < l.length ∨ okDir (rdAll l n.toNat).1 = false then ([], 3) else ((rdAll l n.toNat).1, 0)
def mbC (b : Mb) : List Value := [.string (ba b.s), .int .i64 b.a, .int .i64 b.f, .int .i64 b.r, .int .i64 b.z, .int .u32 b.u, .int .i64 b.m]
def memsC : List Mb → List Value
  | [] => []
  | b :: r => mbC b ++ memsC r
theorem memsC_app (a b : List Mb) : memsC (a ++ b) = memsC a ++ memsC b := by
  induction a with
  | nil => simp [memsC]
  | cons x r ih => simp only [List.cons_append, memsC, ih, List.append_assoc]
theorem memsC_get : ∀ (l : List Mb) (i : Nat) (h : i < l.length) (k : Nat), k < 7 → (memsC l)[i * 7 + k]? = (mbC l[i])[k]?
  | b :: r, 0, h, k, hk => by
    rw [memsC, List.getElem?_append_left (by simp [mbC]; omega)]
    simp
  | b :: r, i + 1, h, k, hk => by
    have hl : (mbC b).length = 7 := rfl
    rw [memsC, List.getElem?_append_right (by rw [hl]; omega), hl, show (i + 1) * 7 + k - 7 = i * 7 + k by omega]
    exact memsC_get r i (by simpa using h) k hk
theorem mems_of {w : World} {own : Nat → Prop} {q : Option Addr} {n c : Nat} {l : List Mb} (h : OwnRow w own 50 7 (.slice q n c) l.length (memsC l)) : MemsAt w q l := fun i hi => by
  have at_ : ∀ k u, k < 7 → (mbC l[i])[k]? = some u → ∃ a, q = some a ∧ w.cell? (a.add (i * 7 + k)) = some u := fun k u hk hu => h.at (by rw [memsC_get l i hi k hk]; exact hu)
  obtain ⟨a, e, c0⟩ := at_ 0 _ (by omega) rfl
  have go : ∀ k u, k < 7 → (mbC l[i])[k]? = some u → w.cell? ((a.add (i * 7)).add k) = some u := fun k u hk hu => by
    obtain ⟨a', e', c⟩ := at_ k u hk hu
    rw [e] at e'
    cases e'
    rw [add_add]
    exact c
  exact ⟨a, e, go 0 _ (by omega) rfl, go 1 _ (by omega) rfl, go 2 _ (by omega) rfl, go 3 _ (by omega) rfl, go 4 _ (by omega) rfl, go 5 _ (by omega) rfl, go 6 _ (by omega) rfl⟩
theorem elem50 : elemOk Tryd.prog 50 7 = true := by kernel_rfl
theorem und42 : Tryd.prog.underlying 42 = some (.slice 50) := Tryd.underlying42
theorem c117 {w : World} (hml : ML w) {q : Option Addr} {c : Nat} {l : List UInt8} (hb : BytesAt w q (ba l)) (hc : l.length ≤ c) (hl : l.length ≤ 1000000) (n : Int) : Rets Tryd.prog 117 #[.slice q l.length c, .int .i64 n] w fun v w' =>
    ∃ q' c', v = .tuple #[.slice q' (takeD l n).1.length c', .int .i64 (takeD l n).2] ∧ MemsAt w' q' (takeD l n).1 ∧ Kp none_ w w' := by
  refine ent [_, _] Tryd.func117 ((vcTryd117 _ _ _ _ w _).mpr ?_)
  unfold VCTryd117
  generalize hT : takeD l n = T
  have nom : ∀ w', MemsAt w' none ([] : List Mb) := fun w' i hi => by simp at hi
  refine (c119 _ _ _ w).mono ?_
  rintro v wx ⟨rfl, e⟩
  obtain rfl := e.symm
  refine ⟨_, rfl, (Kp.refl none_ _).keeps0, bif_not (fun h0 => ⟨_, rfl, none, 0, ?_, ?_, Kp.refl _ _⟩) (fun h0 => ?_)⟩
  · have h := of_decide_eq_false h0
    rw [← hT]; unfold takeD; rw [if_pos h]; rfl
  · have h := of_decide_eq_false h0
    rw [← hT]; unfold takeD; rw [if_pos h]; exact nom _
  have hn := of_decide_eq_true h0
  obtain ⟨N, rfl⟩ := Int.eq_ofNat_of_zero_le hn.1
  have hT1 : T = (if (rdAll l N).2.2 = true then ([], 2) else if (rdAll l N).2.1 < l.length ∨ okDir (rdAll l N).1 = false then ([], 3) else ((rdAll l N).1, 0)) := by
    rw [← hT]; unfold takeD; rw [if_neg (fun h => h hn)]; rfl
  clear hT
  have hl' : l.length ≤ 1000000000 := by omega
  refine (c109 hb hc).mono ?_
  rintro v w1 ⟨rfl, k1, d1⟩
  refine ⟨_, rfl, k1.keeps0, ?_⟩
  generalize hr : w.heap.size = r at *
  refine ⟨fun i q n c w' => ∃ j : Nat, i = j ∧ j ≤ N ∧ Kp (fun i => r ≤ i) w w' ∧ OwnRow w' (fun i => r < i) 50 7 (.slice q n c) j (memsC (rdAll l j).1) ∧ Rdr w' r l (rdAll l j).2, fun i _ _ _ _ => (N - i).toNat, ⟨0, rfl, by omega, k1.wide, OwnRow.nil _ _ _ _, d1⟩, ?_⟩
  rintro i q2 n2 c2 w2 ⟨j, rfl, hj, k2, o2, d2⟩
  have hd2 := d2.lt
  refine bif_dec (fun hlt => (c162 d2 hl).mono ?_) (fun hge => ?_)
  · rintro v w3 ⟨rfl, k3, d3⟩
    have o3 := o2.kp k3 fun g n cap _ hg hh => by have hh : g = r := hh; omega
    refine ⟨_, _, _, _, _, _, _, rfl, k3.keeps0, ?_⟩
    have hd3 := d3.lt
    have ka : Kp none_ w3 (w3.alloc (.cells #[.string (ba (rdOne l (rdAll l j).2).1.s), .int .i64 (rdOne l (rdAll l j).2).1.a, .int .i64 (rdOne l (rdAll l j).2).1.f, .int .i64 (rdOne l (rdAll l j).2).1.r, .int .i64 (rdOne l (rdAll l j).2).1.z, .int .u32 (rdOne l (rdAll l j).2).1.u, .int .i64 (rdOne l (rdAll l j).2).1.m] 50)) := (Kp.refl none_ w3).alloc1 _
    have B3 : Big (w3.alloc (.cells #[.string (ba (rdOne l (rdAll l j).2).1.s), .int .i64 (rdOne l (rdAll l j).2).1.a, .int .i64 (rdOne l (rdAll l j).2).1.f, .int .i64 (rdOne l (rdAll l j).2).1.r, .int .i64 (rdOne l (rdAll l j).2).1.z, .int .u32 (rdOne l (rdAll l j).2).1.u, .int .i64 (rdOne l (rdAll l j).2).1.m] 50)) w3.heap.size 50 (mbC (rdOne l (rdAll l j).2).1) := Big.new w3 _ 50
    have kw : Kp (fun i => r < i) w3 (w3.alloc (.cells #[.string (ba (rdOne l (rdAll l j).2).1.s), .int .i64 (rdOne l (rdAll l j).2).1.a, .int .i64 (rdOne l (rdAll l j).2).1.f, .int .i64 (rdOne l (rdAll l j).2).1.r, .int .i64 (rdOne l (rdAll l j).2).1.z, .int .u32 (rdOne l (rdAll l j).2).1.u, .int .i64 (rdOne l (rdAll l j).2).1.m] 50)) := ka.wide
    have k23 : Kp (fun i => r ≤ i) w w3 := k2.trans (k3.mono fun i _ h => Nat.le_of_eq h.symm)
    refine append_own (n := j) (xs := memsC (rdAll l j).1) (news := mbC (rdOne l (rdAll l j).2).1) und42 elem50 (by omega) (o3.kp ka fun _ _ _ _ _ h => h) rfl (fun k u hk => ?_) (fun u hu => ?_) (by omega) (by omega) fun v' w4 o4 k4 => ?_
    · rw [ad_add, Nat.zero_add, B3.cell]
      exact hk
    · simp only [mbC, List.mem_cons, List.not_mem_nil, or_false] at hu
      rcases hu with rfl | rfl | rfl | rfl | rfl | rfl | rfl <;> simp [Value.oneCell']
    · obtain ⟨q5, c5, rfl⟩ : ∃ q c, v' = .slice q (j + 1) c := by
        obtain ⟨q, c, e⟩ := o4.slice
        exact ⟨q, c, e⟩
      refine ⟨_, _, _, rfl, k4.keeps0, wr64 (by omega) ⟨⟨j + 1, by omega, by omega, ?_, ?_, (d3.above kw).above k4⟩, by first | omega | (dsimp only; omega)⟩⟩
      · exact (k23.trans ka.wide).trans (k4.mono fun i _ h => Nat.le_of_lt h)
      · rw [rdAll, memsC_app, show memsC [(rdOne l (rdAll l j).2).1] = mbC (rdOne l (rdAll l j).2).1 from by simp [memsC]]
        refine o4.mono fun i h _ => ?_
        rcases h with h | h
        · exact h
        · have := ka.size
          have h : (w3.alloc _).heap.size ≤ i := h
          omega
  · have ej : j = N := by omega
    subst ej
    have k02 : Kp none_ w w2 := k2.narrow (Nat.le_of_eq hr)
    refine (c113 d2).mono ?_
    rintro v wx ⟨rfl, e⟩
    obtain rfl := e.symm
    refine ⟨_, rfl, (Kp.refl none_ _).keeps0, ?_⟩
    cases hbad : (rdAll l j).2.2 with
    | true =>
      rw [if_pos hbad] at hT1
      exact ⟨_, rfl, none, 0, by rw [hT1]; rfl, by rw [hT1]; exact nom _, k02⟩
    | false =>
      rw [if_neg (by rw [hbad]; decide)] at hT1
      show Rets Tryd.prog 163 _ _ _
      refine (c163 d2 hl').mono ?_
      rintro v w3 ⟨rfl, k3⟩
      have hle := d2.le
      have k03 := k02.trans k3
      refine ⟨_, rfl, k3.keeps0, bif_dec (fun h => ⟨_, rfl, none, 0, ?_, ?_, k03⟩) (fun h => ?_)⟩
      · rw [if_pos (.inl (by omega))] at hT1
        rw [hT1]; rfl
      · rw [if_pos (.inl (by omega))] at hT1
        rw [hT1]; exact nom _
      have hrl := rdAll_len l j
      have o3 := o2.kp k3 fun _ _ _ _ _ h => h
      have m3 : MemsAt w3 q2 (rdAll l j).1 := mems_of (own := fun i => r < i) (n := n2) (c := c2) (by rw [hrl]; exact o3)
      have en : n2 = (rdAll l j).1.length := by rw [hrl]; exact (o3.lens).1
      rw [en]
      refine (c43 (hml.kp0 k03) m3 fun b hb => by have := rdAll_names l j b hb; omega).mono ?_
      rintro v w4 ⟨rfl, k4⟩
      refine ⟨_, rfl, k4.keeps0, bif_not (fun hh => ⟨_, rfl, none, 0, ?_, ?_, k03.trans k4⟩) (fun hh => ⟨_, rfl, q2, c2, ?_, ?_, k03.trans k4⟩)⟩
      · rw [if_pos (.inr hh)] at hT1
        rw [hT1]; rfl
      · rw [if_pos (.inr hh)] at hT1
        rw [hT1]; exact nom _
      · rw [if_neg (fun h' => by rcases h' with h' | h'; · omega
                                 · rw [hh] at h'; cases h')] at hT1
        rw [hT1]
      · rw [if_neg (fun h' => by rcases h' with h' | h'; · omega
                                 · rw [hh] at h'; cases h')] at hT1
        rw [hT1]; exact m3.kp0 k4
end Go.Proofs.YtbpknjldphckgaaDoor

/- EntrySames walked. -/
namespace Go.Proofs.YtbpknjldphckgaaDoor
open Go Go.SX Go.SX.Crc Go.Proofs Go.Lib
set_option maxRecDepth 100000
set_option linter.unusedVariables false
set_option linter.unusedSimpArgs false
def m0 : Mb := ⟨[97], 1024, 1047, 0, 0, 0, 0⟩
theorem okM0 : okDir [m0] = true := by decide +kernel
theorem takeM0 : takeD (dirB [m0]) 1 = ([m0], 0) := by decide +kernel
theorem lenM0 : (dirB [m0]).length = 19 := by decide +kernel
theorem c37 {w : World} (hml : ML w) : Rets Tryd.prog 37 #[] w fun v w' => v = .bool true ∧ Kp none_ w w' := by
  refine ent [] Tryd.func37 ((vcTryd37 w _).mpr ?_)
  unfold VCTryd37
  simp only [set7_def]
  intro _
  have kn := newset7 (v0 := .string { data := #[97] }) (v1 := .int .i64 1024) (v2 := .int .i64 1047) (v3 := .int .i64 0) (v4 := .int .i64 0) (v5 := .int .u32 0) (v6 := .int .i64 0) (cs := #[.string { data := #[] }, .int .i64 0, .int .i64 0, .int .i64 0, .int .i64 0, .int .u32 0, .int .i64 0]) (e := 50) (Kp.refl none_ w)
  have zn : w.heap.size < (set7 (w.alloc (.cells #[.string { data := #[] }, .int .i64 0, .int .i64 0, .int .i64 0, .int .i64 0, .int .u32 0, .int .i64 0] 50)) w.heap.size (.string { data := #[97] }) (.int .i64 1024) (.int .i64 1047) (.int .i64 0) (.int .i64 0) (.int .u32 0) (.int .i64 0)).heap.size := newset7_lt
  generalize set7 (w.alloc (.cells #[.string { data := #[] }, .int .i64 0, .int .i64 0, .int .i64 0, .int .i64 0, .int .u32 0, .int .i64 0] 50)) w.heap.size (.string { data := #[97] }) (.int .i64 1024) (.int .i64 1047) (.int .i64 0) (.int .i64 0) (.int .u32 0) (.int .i64 0) = wn at *
  have ka : Kp none_ wn (wn.alloc (.cells #[.string { data := #[97] }, .int .i64 1024, .int .i64 1047, .int .i64 0, .int .i64 0, .int .u32 0, .int .i64 0] 50)) := (Kp.refl none_ wn).alloc1 _
  have B : Big (wn.alloc (.cells #[.string { data := #[97] }, .int .i64 1024, .int .i64 1047, .int .i64 0, .int .i64 0, .int .u32 0, .int .i64 0] 50)) wn.heap.size 50 (mbC m0) := Big.new wn _ 50
  generalize wn.alloc (.cells #[.string { data := #[97] }, .int .i64 1024, .int .i64 1047, .int .i64 0, .int .i64 0, .int .u32 0, .int .i64 0] 50) = w0 at *
  have k0 := kn.trans ka
  have z0 := Nat.lt_of_lt_of_le zn ka.size
  have mems : MemsAt w0 (some ⟨wn.heap.size, 0, none⟩) [m0] := fun i hi => by
    have : i = 0 := by simp at hi; omega
    subst this
    exact ⟨_, rfl, B.cell 0, B.cell 1, B.cell 2, B.cell 3, B.cell 4, B.cell 5, B.cell 6⟩
  have hwf : ∀ b ∈ [m0], b.s.length ≤ 1000000 ∧ b.wf := fun b hb => by
    rw [List.mem_singleton] at hb
    subst hb
    exact ⟨by decide, by decide, by decide, by decide⟩
  refine (c41 (hml.kp0 k0) mems hwf).mono ?_
  rw [okM0]
  simp only [if_true]
  rintro v w1 ⟨q, n, c, rfl, b1, k1⟩
  obtain ⟨rfl, hc, _⟩ := b1.lens
  have k01 := k0.trans k1
  have z1 := Nat.lt_of_lt_of_le z0 k1.size
  refine ⟨_, _, _, _, rfl, k1.k0 z0, fun _ => (c117 (hml.kp0 k01) b1.bytes hc (by rw [lenM0]; omega) 1).mono ?_⟩
  rw [takeM0]
  rintro v w2 ⟨q2, c2, rfl, m2, k2⟩
  have k02 := k01.trans k2
  rw [lenM0]
  refine ⟨_, _, _, _, rfl, k2.k0 z1, ?_⟩
  show cond true (cond true (cond true (cond true _ _) _) _) _
  simp only [cond_true]
  have kd : Kp none_ w2 w2.drew := Kp.drew1
  obtain ⟨x, rfl, mx⟩ := m2 0 (by decide)
  have mx' := mx.kp0 kd
  refine ⟨⟨by decide, by decide⟩, ?_⟩
  rw [ptr_some]
  refine ⟨_, _, _, _, _, _, _, ⟨mx'.c0, mx'.c1, mx'.c2, mx'.c3, mx'.c4, mx'.c5, mx'.c6, trivial⟩, ?_⟩
  first
  | exact ⟨rfl, fun _ => ⟨_, rfl, by rw [beq_ba]; rfl, k02.trans kd⟩⟩
  | exact ⟨trivial, fun _ => ⟨_, rfl, by rw [beq_ba]; rfl, k02.trans kd⟩⟩
  | exact fun _ => ⟨_, rfl, by rw [beq_ba]; rfl, k02.trans kd⟩
theorem c6 {W : World} (hml : ML W) {q r : Option Addr} {c d : Nat} {l m : List Mb} (hq : MemsAt W q l) (hr : MemsAt W r m) : Rets Tryd.prog 6 #[.slice q l.length c, .slice r m.length d] W fun v w' => v = .bool true ∧ Kp none_ W w' := by
  refine ent [_, _] Tryd.func6 ((vcTryd6 _ _ _ _ _ _ W _).mpr ?_)
  unfold VCTryd6
  have live : ∀ {w : World}, Kp none_ W w → Rets Tryd.prog 37 #[] w fun v w' => ∃ t, v = .bool t ∧ Keeps w w' [] ∧ ∃ v, Ending.returned (Value.bool t) = Ending.returned v ∧ v = .bool true ∧ Kp none_ W w' := fun k => (c37 (hml.kp0 k)).mono (by
    rintro v w' ⟨rfl, k2⟩
    exact ⟨_, rfl, k2.keeps0, _, rfl, rfl, k.trans k2⟩)
  refine (c36 hq).mono ?_
  rintro v wx ⟨t, rfl, e, ht⟩
  obtain rfl := e.symm
  refine ⟨_, rfl, (Kp.refl none_ _).keeps0, bif_b (fun _ => live (Kp.refl _ _)) (fun h1 => (c36 hr).mono ?_)⟩
  obtain ⟨hl, _⟩ := ht h1
  rintro v wx ⟨t2, rfl, e, ht2⟩
  obtain rfl := e.symm
  refine ⟨_, rfl, (Kp.refl none_ _).keeps0, bif_b (fun _ => live (Kp.refl _ _)) (fun h2 => (c38 hq hr (by omega)).mono ?_)⟩
  rintro v w1 ⟨rfl, k1⟩
  refine ⟨_, rfl, k1.keeps0, (c39 (hq.kp0 k1) (hr.kp0 k1) (by omega)).mono ?_⟩
  rintro v w2 ⟨rfl, k2⟩
  have k02 := k1.trans k2
  refine ⟨_, rfl, k2.keeps0, bif_b (fun _ => (c38 (hq.kp0 k02) (hq.kp0 k02) (by omega)).mono ?_) (fun h => by simp at h)⟩
  rintro v w3 ⟨rfl, k3⟩
  refine ⟨_, rfl, k3.keeps0, bif_dec (fun _ => live (k02.trans k3)) (fun h => absurd rfl h)⟩
end Go.Proofs.YtbpknjldphckgaaDoor
