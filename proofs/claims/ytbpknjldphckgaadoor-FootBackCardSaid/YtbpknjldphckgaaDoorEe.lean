/- A directory's bytes. -/
import Derived.Test.YtbpknjldphckgaaDoorEc
import Derived.Test.YtbpknjldphckgaaDoorBo
namespace Go.Proofs.YtbpknjldphckgaaDoor
open Go Go.SX Go.SX.Crc Go.Proofs Go.Lib
set_option maxRecDepth 100000
set_option linter.unusedVariables false
set_option linter.unusedSimpArgs false
theorem MbAt.far {w w' : World} {x : Addr} {b : Mb} {E : Nat} (h : MbAt w x b) (k : Kp (fun i => E ≤ i) w w') (hE : w.heap.size ≤ E) : MbAt w' x b :=
  ⟨cell_far h.c0 k hE, cell_far h.c1 k hE, cell_far h.c2 k hE, cell_far h.c3 k hE, cell_far h.c4 k hE, cell_far h.c5 k hE, cell_far h.c6 k hE⟩
theorem MemsAt.far {w w' : World} {q : Option Addr} {l : List Mb} {E : Nat} (h : MemsAt w q l) (k : Kp (fun i => E ≤ i) w w') (hE : w.heap.size ≤ E) : MemsAt w' q l := fun i hi => by
  obtain ⟨x, e, m⟩ := h i hi
  exact ⟨x, e, m.far k hE⟩
/-- A member's bytes, the first so many of its four numbers put. -/
def mbJ (b : Mb) (j : Nat) : List UInt8 := [UInt8.ofNat b.m.toNat, UInt8.ofNat b.s.length] ++ (if 0 < j then le4 (w32 b.a) else []) ++ (if 1 < j then le4 (w32 b.z) else []) ++ (if 2 < j then le4 (w32 b.r) else []) ++ (if 3 < j then le4 (w32 b.u) else [])
theorem mbJ_len (b : Mb) (j : Nat) : (mbJ b j).length ≤ 18 := by
  unfold mbJ
  simp only [List.length_append]
  split <;> split <;> split <;> split <;> simp [le4_len]
def mbB (b : Mb) : List UInt8 := mbJ b 4 ++ b.s
theorem mbB_len (b : Mb) : (mbB b).length = 18 + b.s.length := by simp [mbB, mbJ, le4_len]; omega
def dirB : List Mb → List UInt8
  | [] => []
  | b :: r => mbB b ++ dirB r
theorem dirB_app (a b : List Mb) : dirB (a ++ b) = dirB a ++ dirB b := by
  induction a with
  | nil => simp [dirB]
  | cons x r ih => simp only [List.cons_append, dirB, ih, List.append_assoc]
theorem dirB_step {l : List Mb} {j : Nat} (h : j < l.length) : dirB (l.take (j + 1)) = dirB (l.take j) ++ mbB l[j] := by
  rw [List.take_succ_eq_append_getElem h, dirB_app]
  simp [dirB]
theorem dirB_len : ∀ l, (dirB l).length = lenL l
  | [] => rfl
  | b :: r => by rw [dirB, lenL, List.length_append, mbB_len, dirB_len r]
theorem okMb_facts {b : Mb} (h : okMb b = true) : b.s.length ≤ 64 ∧ (0 ≤ b.m ∧ b.m ≤ 2) ∧ (1024 ≤ b.a ∧ b.a ≤ 1073741824) ∧ b.f = b.a + (22 + b.s.length : Nat) ∧ (0 ≤ b.r ∧ b.r ≤ 262144) ∧ (0 ≤ b.z ∧ b.z ≤ 65536) := by
  unfold okMb at h
  rw [Bool.and_eq_true, decide_eq_true_eq] at h
  exact ⟨okName_len h.1, h.2⟩
theorem kso {O : Nat → Prop} {w w' : World} {g : Nat} (k : Kp O w w') (hg : ¬ O g) (hl : g < w.heap.size) : Keeps w w' [g] := k.keeps fun b hb => by
  rw [List.mem_singleton] at hb
  subst hb
  exact ⟨hl, hg⟩
/-- One's own, but for one block. -/
def but (E g : Nat) (i : Nat) : Prop := E ≤ i ∧ i ≠ g
theorem but_new {E g : Nat} {w : World} (hE : E ≤ w.heap.size) (hg : g < w.heap.size) : ∀ i, w.heap.size ≤ i → but E g i := fun i hi => ⟨by omega, by omega⟩
theorem but_no {E g : Nat} : ¬ but E g g := fun h => h.2 rfl
theorem but_kp {E g : Nat} {w w' : World} (k : Kp (but E g) w w') : Kp (fun i => E ≤ i) w w' := k.mono fun i _ h => h.1
theorem c47 {w : World} {q : Option Addr} {c : Nat} {l : List Mb} (h : MemsAt w q l) (hs : ∀ b ∈ l, okMb b = true ∧ b.wf) (hlen : l.length ≤ 250) : Rets Tryd.prog 47 #[.slice q l.length c] w fun v w' => Buf w' w.heap.size 5 v (dirB l) ∧ Kp none_ w w' := by
  refine ent [_] Tryd.func47 ((vcTryd47 _ _ _ w _).mpr ?_)
  unfold VCTryd47
  simp only [set7_def]
  have hs200 : ∀ b ∈ l, b.s.length ≤ 200 := fun b hb => by have := (okMb_facts (hs b hb).1).1; omega
  refine ⟨fun i q n c w' => ∃ j : Nat, i = j ∧ j ≤ l.length ∧ Kp (fun i => w.heap.size ≤ i) w w' ∧ BufO w' (fun i => w.heap.size ≤ i) 5 (.slice q n c) (dirB (l.take j)), fun i _ _ _ _ => (l.length - i).toNat, ⟨0, rfl, by omega, Kp.refl _ _, BufO.nil _ _ _⟩, ?_⟩
  rintro i q3 n4 n5 w6 ⟨j, rfl, hj, k6, b6⟩
  refine bif_dec (fun h1 => ?_) (fun h1 => ⟨_, rfl, ?_, k6.narrow (Nat.le_refl _)⟩)
  rotate_left
  · rw [List.take_of_length_le (by omega)] at b6
    exact b6.buf fun g hg => hg
  have hjl : j < l.length := by omega
  obtain ⟨hok, hwf⟩ := hs _ (List.getElem_mem hjl)
  obtain ⟨hsl, hm, ha, hf, hr, hz⟩ := okMb_facts hok
  obtain ⟨_, _, hu⟩ := hwf
  have hE6 := k6.size
  have dl : (dirB (l.take j)).length ≤ 218 * 250 := by
    rw [dirB_len]
    have := lenL_le hs200 j
    omega
  refine ⟨⟨by omega, by omega⟩, mem_at (h.far k6 (Nat.le_refl _)) hjl fun x hx mx => ⟨_, _, _, _, _, _, _, ⟨mx.c0, mx.c1, mx.c2, mx.c3, mx.c4, mx.c5, mx.c6, trivial⟩, wr8 (by omega) (wr8 (by rw [ba_size]; omega) ?_)⟩⟩
  have kn := newset7 (v0 := .string (ba l[j].s)) (v1 := .int .i64 l[j].a) (v2 := .int .i64 l[j].f) (v3 := .int .i64 l[j].r) (v4 := .int .i64 l[j].z) (v5 := .int .u32 l[j].u) (v6 := .int .i64 l[j].m) (cs := #[.string { data := #[] }, .int .i64 0, .int .i64 0, .int .i64 0, .int .i64 0, .int .u32 0, .int .i64 0]) (e := 50) (Kp.refl none_ w6)
  have zn : w6.heap.size < (set7 (w6.alloc (.cells #[.string { data := #[] }, .int .i64 0, .int .i64 0, .int .i64 0, .int .i64 0, .int .u32 0, .int .i64 0] 50)) w6.heap.size (.string (ba l[j].s)) (.int .i64 l[j].a) (.int .i64 l[j].f) (.int .i64 l[j].r) (.int .i64 l[j].z) (.int .u32 l[j].u) (.int .i64 l[j].m)).heap.size := newset7_lt
  generalize set7 (w6.alloc (.cells #[.string { data := #[] }, .int .i64 0, .int .i64 0, .int .i64 0, .int .i64 0, .int .u32 0, .int .i64 0] 50)) w6.heap.size (.string (ba l[j].s)) (.int .i64 l[j].a) (.int .i64 l[j].f) (.int .i64 l[j].r) (.int .i64 l[j].z) (.int .u32 l[j].u) (.int .i64 l[j].m) = wn at *
  have bn := b6.kp (F := but w.heap.size w6.heap.size) kn fun i hi he => ⟨id, he, by omega⟩
  have En : w.heap.size ≤ wn.heap.size := by omega
  refine bufo_lit (new := [UInt8.ofNat l[j].m.toNat, UInt8.ofNat l[j].s.length]) but_no zn und27 byte5 bn (but_new En zn) (cells2 (by omega) (by omega) (ba_size _).symm) rfl (by simp; omega) fun v w7 b7 k7 kp7 => ?_
  obtain ⟨q7, c7, rfl, _, _⟩ := b7.slice
  have z7 := Nat.lt_of_lt_of_le zn k7.size
  have E7 : w.heap.size ≤ w7.heap.size := by omega
  refine ⟨_, _, _, rfl, kp7, wr32 (by omega) fun _ => ?_⟩
  have hc7 := c120 (w32 l[j].a) w7
  rw [w32_nat (by omega) (by omega)] at hc7
  refine hc7.mono ?_
  rintro v w8 ⟨b8, k8⟩
  obtain ⟨q8, c8, rfl, _, _⟩ := b8.slice
  have z8 := Nat.lt_of_lt_of_le z7 k8.size
  have E8 : w.heap.size ≤ w8.heap.size := by omega
  refine ⟨_, _, _, rfl, k8.k0 z7, ?_⟩
  refine bufo_app und27 byte5 (b7.kp0 k8) (but_new E8 z8) rfl b8.bytes (by simp [le4_len]; omega) fun v w9 b9 k9 => ?_
  obtain ⟨q9, c9, rfl, _, _⟩ := b9.slice
  have z9 := Nat.lt_of_lt_of_le z8 k9.size
  have E9 : w.heap.size ≤ w9.heap.size := by omega
  refine ⟨_, _, _, rfl, kso k9 but_no z8, wr32 (by omega) fun _ => ?_⟩
  have hc9 := c120 (w32 l[j].z) w9
  rw [w32_nat (by omega) (by omega)] at hc9
  refine hc9.mono ?_
  rintro v w10 ⟨b10, k10⟩
  obtain ⟨q10, c10, rfl, _, _⟩ := b10.slice
  have z10 := Nat.lt_of_lt_of_le z9 k10.size
  have E10 : w.heap.size ≤ w10.heap.size := by omega
  refine ⟨_, _, _, rfl, k10.k0 z9, ?_⟩
  refine bufo_app und27 byte5 (b9.kp0 k10) (but_new E10 z10) rfl b10.bytes (by simp [le4_len]; omega) fun v w11 b11 k11 => ?_
  obtain ⟨q11, c11, rfl, _, _⟩ := b11.slice
  have z11 := Nat.lt_of_lt_of_le z10 k11.size
  have E11 : w.heap.size ≤ w11.heap.size := by omega
  refine ⟨_, _, _, rfl, kso k11 but_no z10, wr32 (by omega) fun _ => ?_⟩
  have hc11 := c120 (w32 l[j].r) w11
  rw [w32_nat (by omega) (by omega)] at hc11
  refine hc11.mono ?_
  rintro v w12 ⟨b12, k12⟩
  obtain ⟨q12, c12, rfl, _, _⟩ := b12.slice
  have z12 := Nat.lt_of_lt_of_le z11 k12.size
  have E12 : w.heap.size ≤ w12.heap.size := by omega
  refine ⟨_, _, _, rfl, k12.k0 z11, ?_⟩
  refine bufo_app und27 byte5 (b11.kp0 k12) (but_new E12 z12) rfl b12.bytes (by simp [le4_len]; omega) fun v w13 b13 k13 => ?_
  obtain ⟨q13, c13, rfl, _, _⟩ := b13.slice
  have z13 := Nat.lt_of_lt_of_le z12 k13.size
  have E13 : w.heap.size ≤ w13.heap.size := by omega
  refine ⟨_, _, _, rfl, kso k13 but_no z12, fun _ => ?_⟩
  have hc13 := c120 (w32 l[j].u) w13
  rw [w32_nat (by omega) (by omega)] at hc13
  refine hc13.mono ?_
  rintro v w14 ⟨b14, k14⟩
  obtain ⟨q14, c14, rfl, _, _⟩ := b14.slice
  have z14 := Nat.lt_of_lt_of_le z13 k14.size
  have E14 : w.heap.size ≤ w14.heap.size := by omega
  refine ⟨_, _, _, rfl, k14.k0 z13, ?_⟩
  refine bufo_app und27 byte5 (b13.kp0 k14) (but_new E14 z14) rfl b14.bytes (by simp [le4_len]; omega) fun v w15 b15 k15 => ?_
  obtain ⟨q15, c15, rfl, _, _⟩ := b15.slice
  have z15 := Nat.lt_of_lt_of_le z14 k15.size
  have E15 : w.heap.size ≤ w15.heap.size := by omega
  refine ⟨_, _, _, rfl, kso k15 but_no z14, bufo_str und27 und9 byte5 b15 (but_new E15 z15) (ba l[j].s) (by rw [ba_size]; simp [le4_len]; omega) fun v w16 b16 k16 => ?_⟩
  obtain ⟨q16, c16, rfl, _, _⟩ := b16.slice
  rw [ba_list] at b16
  refine ⟨_, _, _, rfl, kso k16 but_no z15, wr64 (by omega) ⟨⟨j + 1, by omega, by omega, ?_, ?_⟩, by first | omega | (dsimp only; omega)⟩⟩
  · exact (((((((((k6.trans kn.wide).trans (but_kp k7)).trans k8.wide).trans (but_kp k9)).trans k10.wide).trans (but_kp k11)).trans k12.wide).trans (but_kp k13)).trans k14.wide).trans (but_kp k15) |>.trans (but_kp k16)
  · rw [dirB_step hjl]
    have e : dirB (l.take j) ++ mbB l[j] = dirB (l.take j) ++ [UInt8.ofNat l[j].m.toNat, UInt8.ofNat l[j].s.length] ++ le4 (w32 l[j].a) ++ le4 (w32 l[j].z) ++ le4 (w32 l[j].r) ++ le4 (w32 l[j].u) ++ l[j].s := by simp [mbB, mbJ]
    rw [e]
    rw [ba_list]
    exact b16.kp (Kp.refl none_ _) fun i _ hi => ⟨id, hi.1⟩
end Go.Proofs.YtbpknjldphckgaaDoor

/- A directory's bytes, and its names. -/
namespace Go.Proofs.YtbpknjldphckgaaDoor
open Go Go.SX Go.SX.Crc Go.Proofs Go.Lib
set_option maxRecDepth 100000
set_option linter.unusedVariables false
set_option linter.unusedSimpArgs false
theorem okDir_all {l : List Mb} (h : okDir l = true) : l.length ≤ 200 ∧ ∀ b ∈ l, okMb b = true := by
  unfold okDir at h
  rw [Bool.and_eq_true, decide_eq_true_eq, List.all_eq_true] at h
  refine ⟨h.1, fun b hb => ?_⟩
  obtain ⟨k, hk, e⟩ := List.getElem_of_mem hb
  have := h.2 k (List.mem_range.2 hk)
  subst e
  cases k with
  | zero => rwa [okAt_zero hk] at this
  | succ k => rw [okAt_succ hk, Bool.and_eq_true] at this; exact this.1
theorem c41 {w : World} (hml : ML w) {q : Option Addr} {c : Nat} {l : List Mb} (h : MemsAt w q l) (hs : ∀ b ∈ l, b.s.length ≤ 1000000 ∧ b.wf) : Rets Tryd.prog 41 #[.slice q l.length c] w fun v w' =>
    ∃ q n c, v = .tuple #[.slice q n c, .int .i64 (if okDir l = true then 0 else 1)] ∧ Buf w' w.heap.size 5 (.slice q n c) (if okDir l = true then dirB l else []) ∧ Kp none_ w w' := by
  refine ent [_] Tryd.func41 ((vcTryd41 _ _ _ w _).mpr ?_)
  unfold VCTryd41
  simp only [set7_def]
  refine (c43 hml h fun b hb => (hs b hb).1).mono ?_
  rintro v w1 ⟨rfl, k1⟩
  refine ⟨_, rfl, k1.keeps0, bif_not (fun hb => ⟨_, rfl, none, 0, 0, ?_, ?_, k1⟩) (fun hb => ?_)⟩
  · rw [if_neg (by rw [hb]; decide)]
  · rw [if_neg (by rw [hb]; decide)]; exact Buf.nil _ _ _
  rw [if_pos hb, if_pos hb]
  obtain ⟨hlen, hall⟩ := okDir_all hb
  have hs200 : ∀ b ∈ l, b.s.length ≤ 200 := fun b hb => by have := (okMb_facts (hall b hb)).1; omega
  have h' := h.kp0 k1
  refine ⟨fun i q n c w' => ∃ j : Nat, i = j ∧ j ≤ l.length ∧ Kp (fun i => w1.heap.size ≤ i) w1 w' ∧ BufO w' (fun i => w1.heap.size ≤ i) 5 (.slice q n c) (dirB (l.take j)), fun i _ _ _ _ => (l.length - i).toNat, ⟨0, rfl, by omega, Kp.refl _ _, BufO.nil _ _ _⟩, ?_⟩
  rintro i q3 n4 n5 w6 ⟨j, rfl, hj, k6, b6⟩
  refine bif_dec (fun h1 => ?_) (fun h1 => ⟨_, rfl, _, _, _, rfl, ?_, k1.trans (k6.narrow (Nat.le_refl _))⟩)
  rotate_left
  · rw [List.take_of_length_le (by omega)] at b6
    exact b6.buf fun g hg => Nat.le_trans k1.size hg
  have hjl : j < l.length := by omega
  have hok := hall _ (List.getElem_mem hjl)
  obtain ⟨hsl, hm, ha, hf, hr, hz⟩ := okMb_facts hok
  obtain ⟨_, _, hu⟩ := (hs _ (List.getElem_mem hjl)).2
  have hE6 := k6.size
  have dl : (dirB (l.take j)).length ≤ 218 * 250 := by
    rw [dirB_len]
    have := lenL_le hs200 j
    omega
  refine ⟨⟨by omega, by omega⟩, mem_at (h'.far k6 (Nat.le_refl _)) hjl fun x hx mx => ⟨_, _, _, _, _, _, _, ⟨mx.c0, mx.c1, mx.c2, mx.c3, mx.c4, mx.c5, mx.c6, trivial⟩, wr8 (by omega) (wr8 (by rw [ba_size]; omega) ?_)⟩⟩
  have kn := newset7 (v0 := .string (ba l[j].s)) (v1 := .int .i64 l[j].a) (v2 := .int .i64 l[j].f) (v3 := .int .i64 l[j].r) (v4 := .int .i64 l[j].z) (v5 := .int .u32 l[j].u) (v6 := .int .i64 l[j].m) (cs := #[.string { data := #[] }, .int .i64 0, .int .i64 0, .int .i64 0, .int .i64 0, .int .u32 0, .int .i64 0]) (e := 50) (Kp.refl none_ w6)
  have zn : w6.heap.size < (set7 (w6.alloc (.cells #[.string { data := #[] }, .int .i64 0, .int .i64 0, .int .i64 0, .int .i64 0, .int .u32 0, .int .i64 0] 50)) w6.heap.size (.string (ba l[j].s)) (.int .i64 l[j].a) (.int .i64 l[j].f) (.int .i64 l[j].r) (.int .i64 l[j].z) (.int .u32 l[j].u) (.int .i64 l[j].m)).heap.size := newset7_lt
  generalize set7 (w6.alloc (.cells #[.string { data := #[] }, .int .i64 0, .int .i64 0, .int .i64 0, .int .i64 0, .int .u32 0, .int .i64 0] 50)) w6.heap.size (.string (ba l[j].s)) (.int .i64 l[j].a) (.int .i64 l[j].f) (.int .i64 l[j].r) (.int .i64 l[j].z) (.int .u32 l[j].u) (.int .i64 l[j].m) = wn at *
  have bn := b6.kp (F := but w1.heap.size w6.heap.size) kn fun i hi he => ⟨id, he, by omega⟩
  have En : w1.heap.size ≤ wn.heap.size := by omega
  refine bufo_lit (new := [UInt8.ofNat l[j].m.toNat, UInt8.ofNat l[j].s.length]) but_no zn und27 byte5 bn (but_new En zn) (cells2 (by omega) (by omega) (ba_size _).symm) rfl (by simp; omega) fun v w7 b7 k7 kp7 => ?_
  obtain ⟨q7, c7, rfl, _, _⟩ := b7.slice
  have z7 := Nat.lt_of_lt_of_le zn k7.size
  have E7 : w1.heap.size ≤ w7.heap.size := by omega
  refine ⟨_, _, _, rfl, kp7, wr32 (by omega) (wr32 (by omega) (wr32 (by omega) ?_))⟩
  refine ⟨fun i q n c w' => ∃ t : Nat, i = t ∧ t ≤ 4 ∧ Kp (but w1.heap.size w6.heap.size) w7 w' ∧ BufO w' (but w1.heap.size w6.heap.size) 5 (.slice q n c) (dirB (l.take j) ++ mbJ l[j] t), fun i _ _ _ _ => (4 - i).toNat, ⟨0, rfl, by omega, Kp.refl _ _, by simpa [mbJ] using b7⟩, ?_⟩
  rintro i q8 n8 c8 w8 ⟨t, rfl, ht, k8, b8⟩ _
  have z8 := Nat.lt_of_lt_of_le z7 k8.size
  have E8 : w1.heap.size ≤ w8.heap.size := by omega
  have hjl18 := mbJ_len l[j] t
  refine bif_dec (fun hlt => ⟨⟨by omega, by omega⟩, ?_⟩) (fun hge => ?_)
  · have hc4 : t = 0 ∨ t = 1 ∨ t = 2 ∨ t = 3 := by omega
    rcases hc4 with rfl | rfl | rfl | rfl
    · refine ⟨l[j].a, rfl, fun _ => ?_⟩
      have hc := c105o w6.heap.size but_no b8 z8 (but_new E8 z8) (by rw [List.length_append]; omega) (w32 l[j].a)
      rw [w32_nat (by omega) (by omega)] at hc
      refine hc.mono ?_
      rintro v w9 ⟨b9, k9⟩
      obtain ⟨q9, c9, rfl, _, _⟩ := b9.slice
      exact ⟨_, _, _, rfl, kso k9 but_no z8, wr64 (by omega) ⟨rfl, ⟨1, rfl, by omega, k8.trans k9, by simpa [mbJ] using b9⟩, by first | omega | (dsimp only; omega)⟩⟩
    · refine ⟨l[j].z, rfl, fun _ => ?_⟩
      have hc := c105o w6.heap.size but_no b8 z8 (but_new E8 z8) (by rw [List.length_append]; omega) (w32 l[j].z)
      rw [w32_nat (by omega) (by omega)] at hc
      refine hc.mono ?_
      rintro v w9 ⟨b9, k9⟩
      obtain ⟨q9, c9, rfl, _, _⟩ := b9.slice
      exact ⟨_, _, _, rfl, kso k9 but_no z8, wr64 (by omega) ⟨rfl, ⟨2, rfl, by omega, k8.trans k9, by simpa [mbJ] using b9⟩, by first | omega | (dsimp only; omega)⟩⟩
    · refine ⟨l[j].r, rfl, fun _ => ?_⟩
      have hc := c105o w6.heap.size but_no b8 z8 (but_new E8 z8) (by rw [List.length_append]; omega) (w32 l[j].r)
      rw [w32_nat (by omega) (by omega)] at hc
      refine hc.mono ?_
      rintro v w9 ⟨b9, k9⟩
      obtain ⟨q9, c9, rfl, _, _⟩ := b9.slice
      exact ⟨_, _, _, rfl, kso k9 but_no z8, wr64 (by omega) ⟨rfl, ⟨3, rfl, by omega, k8.trans k9, by simpa [mbJ] using b9⟩, by first | omega | (dsimp only; omega)⟩⟩
    · refine ⟨l[j].u, rfl, fun _ => ?_⟩
      have hc := c105o w6.heap.size but_no b8 z8 (but_new E8 z8) (by rw [List.length_append]; omega) (w32 l[j].u)
      rw [w32_nat (by omega) (by omega)] at hc
      refine hc.mono ?_
      rintro v w9 ⟨b9, k9⟩
      obtain ⟨q9, c9, rfl, _, _⟩ := b9.slice
      exact ⟨_, _, _, rfl, kso k9 but_no z8, wr64 (by omega) ⟨rfl, ⟨4, rfl, by omega, k8.trans k9, by simpa [mbJ] using b9⟩, by first | omega | (dsimp only; omega)⟩⟩
  have ht4 : t = 4 := by omega
  subst ht4
  refine bufo_str und27 und9 byte5 b8 (but_new E8 z8) (ba l[j].s) (by rw [ba_size, List.length_append]; omega) fun v w9 b9 k9 => ?_
  obtain ⟨q9, c9, rfl, _, _⟩ := b9.slice
  refine ⟨_, _, _, rfl, kso k9 but_no z8, wr64 (by omega) ⟨⟨j + 1, by omega, by omega, ?_, ?_⟩, by first | omega | (dsimp only; omega)⟩⟩
  · exact (((k6.trans kn.wide).trans (but_kp k7)).trans (but_kp k8)).trans (but_kp k9)
  · rw [dirB_step hjl]
    have e : dirB (l.take j) ++ mbB l[j] = dirB (l.take j) ++ mbJ l[j] 4 ++ (ba l[j].s).data.toList := by rw [ba_list, mbB, List.append_assoc]
    rw [e]
    exact b9.kp (Kp.refl none_ _) fun i _ hi => ⟨id, hi.1⟩
end Go.Proofs.YtbpknjldphckgaaDoor
