/- A directory's bytes, and its names. -/
import Derived.Test.YtbpknjldphckgaaDoorEd
namespace Go.Proofs.YtbpknjldphckgaaDoor
open Go Go.SX Go.SX.Crc Go.Proofs Go.Lib
set_option maxRecDepth 100000
set_option linter.unusedVariables false
set_option linter.unusedSimpArgs false
theorem okDir_all {l : List Mb} (h : okDir l = true) : l.length ≤ 200 ∧ ∀ b ∈ l, okMb b = true := by
  unfold okDir at h
  rw [Bool.and_eq_true, decide_eq_true_eq, List.all_eq_true] at h
  refine ⟨h.1, fun b hb => ?_⟩
  obtain ⟨k, hk, e⟩ := List.getElem_of_mem hb
  have := h.2 k (List.mem_range.2 hk)
  subst e
  cases k with
  | zero => rwa [okAt_zero hk] at this
  | succ k => rw [okAt_succ hk, Bool.and_eq_true] at this; exact this.1
theorem c41 {w : World} (hml : ML w) {q : Option Addr} {c : Nat} {l : List Mb} (h : MemsAt w q l) (hs : ∀ b ∈ l, b.s.length ≤ 1000000 ∧ b.wf) : Rets Tryd.prog 41 #[.slice q l.length c] w fun v w' =>
    ∃ q n c, v = .tuple #[.slice q n c, .int .i64 (if okDir l = true then 0 else 1)] ∧ Buf w' w.heap.size 5 (.slice q n c) (if okDir l = true then dirB l else []) ∧ Kp none_ w w' := by
  refine ent [_] Tryd.func41 ((vcTryd41 _ _ _ w _).mpr ?_)
  unfold VCTryd41
  simp only [set7_def]
  refine (c43 hml h fun b hb => (hs b hb).1).mono ?_
  rintro v w1 ⟨rfl, k1⟩
  refine ⟨_, rfl, k1.keeps0, bif_not (fun hb => ⟨_, rfl, none, 0, 0, ?_, ?_, k1⟩) (fun hb => ?_)⟩
  · rw [if_neg (by rw [hb]; decide)]
  · rw [if_neg (by rw [hb]; decide)]; exact Buf.nil _ _ _
  rw [if_pos hb, if_pos hb]
  obtain ⟨hlen, hall⟩ := okDir_all hb
  have hs200 : ∀ b ∈ l, b.s.length ≤ 200 := fun b hb => by have := (okMb_facts (hall b hb)).1; omega
  have h' := h.kp0 k1
  refine ⟨fun i q n c w' => ∃ j : Nat, i = j ∧ j ≤ l.length ∧ Kp (fun i => w1.heap.size ≤ i) w1 w' ∧ BufO w' (fun i => w1.heap.size ≤ i) 5 (.slice q n c) (dirB (l.take j)), fun i _ _ _ _ => (l.length - i).toNat, ⟨0, rfl, by omega, Kp.refl _ _, BufO.nil _ _ _⟩, ?_⟩
  rintro i q3 n4 n5 w6 ⟨j, rfl, hj, k6, b6⟩
  refine bif_dec (fun h1 => ?_) (fun h1 => ⟨_, rfl, _, _, _, rfl, ?_, k1.trans (k6.narrow (Nat.le_refl _))⟩)
  rotate_left
  · rw [List.take_of_length_le (by omega)] at b6
    exact b6.buf fun g hg => Nat.le_trans k1.size hg
  have hjl : j < l.length := by omega
  have hok := hall _ (List.getElem_mem hjl)
  obtain ⟨hsl, hm, ha, hf, hr, hz⟩ := okMb_facts hok
  obtain ⟨_, _, hu⟩ := (hs _ (List.getElem_mem hjl)).2
  have hE6 := k6.size
  have dl : (dirB (l.take j)).length ≤ 218 * 250 := by
    rw [dirB_len]
    have := lenL_le hs200 j
    omega
  refine ⟨⟨by omega, by omega⟩, mem_at (h'.far k6 (Nat.le_refl _)) hjl fun x hx mx => ⟨_, _, _, _, _, _, _, ⟨mx.c0, mx.c1, mx.c2, mx.c3, mx.c4, mx.c5, mx.c6, trivial⟩, wr8 (by omega) (wr8 (by rw [ba_size]; omega) ?_)⟩⟩
  have kn := newset7 (v0 := .string (ba l[j].s)) (v1 := .int .i64 l[j].a) (v2 := .int .i64 l[j].f) (v3 := .int .i64 l[j].r) (v4 := .int .i64 l[j].z) (v5 := .int .u32 l[j].u) (v6 := .int .i64 l[j].m) (cs := #[.string { data := #[] }, .int .i64 0, .int .i64 0, .int .i64 0, .int .i64 0, .int .u32 0, .int .i64 0]) (e := 50) (Kp.refl none_ w6)
  have zn : w6.heap.size < (set7 (w6.alloc (.cells #[.string { data := #[] }, .int .i64 0, .int .i64 0, .int .i64 0, .int .i64 0, .int .u32 0, .int .i64 0] 50)) w6.heap.size (.string (ba l[j].s)) (.int .i64 l[j].a) (.int .i64 l[j].f) (.int .i64 l[j].r) (.int .i64 l[j].z) (.int .u32 l[j].u) (.int .i64 l[j].m)).heap.size := newset7_lt
  generalize set7 (w6.alloc (.cells #[.string { data := #[] }, .int .i64 0, .int .i64 0, .int .i64 0, .int .i64 0, .int .u32 0, .int .i64 0] 50)) w6.heap.size (.string (ba l[j].s)) (.int .i64 l[j].a) (.int .i64 l[j].f) (.int .i64 l[j].r) (.int .i64 l[j].z) (.int .u32 l[j].u) (.int .i64 l[j].m) = wn at *
  have bn := b6.kp (F := but w1.heap.size w6.heap.size) kn fun i hi he => ⟨id, he, by omega⟩
  have En : w1.heap.size ≤ wn.heap.size := by omega
  refine bufo_lit (new := [UInt8.ofNat l[j].m.toNat, UInt8.ofNat l[j].s.length]) but_no zn und27 byte5 bn (but_new En zn) (cells2 (by omega) (by omega) (ba_size _).symm) rfl (by simp; omega) fun v w7 b7 k7 kp7 => ?_
  obtain ⟨q7, c7, rfl, _, _⟩ := b7.slice
  have z7 := Nat.lt_of_lt_of_le zn k7.size
  have E7 : w1.heap.size ≤ w7.heap.size := by omega
  refine ⟨_, _, _, rfl, kp7, wr32 (by omega) (wr32 (by omega) (wr32 (by omega) ?_))⟩
  refine ⟨fun i q n c w' => ∃ t : Nat, i = t ∧ t ≤ 4 ∧ Kp (but w1.heap.size w6.heap.size) w7 w' ∧ BufO w' (but w1.heap.size w6.heap.size) 5 (.slice q n c) (dirB (l.take j) ++ mbJ l[j] t), fun i _ _ _ _ => (4 - i).toNat, ⟨0, rfl, by omega, Kp.refl _ _, by simpa [mbJ] using b7⟩, ?_⟩
  rintro i q8 n8 c8 w8 ⟨t, rfl, ht, k8, b8⟩ _
  have z8 := Nat.lt_of_lt_of_le z7 k8.size
  have E8 : w1.heap.size ≤ w8.heap.size := by omega
  have hjl18 := mbJ_len l[j] t
  refine bif_dec (fun hlt => ⟨⟨by omega, by omega⟩, ?_⟩) (fun hge => ?_)
  · have hc4 : t = 0 ∨ t = 1 ∨ t = 2 ∨ t = 3 := by omega
    rcases hc4 with rfl | rfl | rfl | rfl
    · refine ⟨l[j].a, rfl, fun _ => ?_⟩
      have hc := c105o w6.heap.size but_no b8 z8 (but_new E8 z8) (by rw [List.length_append]; omega) (w32 l[j].a)
      rw [w32_nat (by omega) (by omega)] at hc
      refine hc.mono ?_
      rintro v w9 ⟨b9, k9⟩
      obtain ⟨q9, c9, rfl, _, _⟩ := b9.slice
      exact ⟨_, _, _, rfl, kso k9 but_no z8, wr64 (by omega) ⟨rfl, ⟨1, rfl, by omega, k8.trans k9, by simpa [mbJ] using b9⟩, by first | omega | (dsimp only; omega)⟩⟩
    · refine ⟨l[j].z, rfl, fun _ => ?_⟩
      have hc := c105o w6.heap.size but_no b8 z8 (but_new E8 z8) (by rw [List.length_append]; omega) (w32 l[j].z)
      rw [w32_nat (by omega) (by omega)] at hc
      refine hc.mono ?_
      rintro v w9 ⟨b9, k9⟩
      obtain ⟨q9, c9, rfl, _, _⟩ := b9.slice
      exact ⟨_, _, _, rfl, kso k9 but_no z8, wr64 (by omega) ⟨rfl, ⟨2, rfl, by omega, k8.trans k9, by simpa [mbJ] using b9⟩, by first | omega | (dsimp only; omega)⟩⟩
    · refine ⟨l[j].r, rfl, fun _ => ?_⟩
      have hc := c105o w6.heap.size but_no b8 z8 (but_new E8 z8) (by rw [List.length_append]; omega) (w32 l[j].r)
      rw [w32_nat (by omega) (by omega)] at hc
      refine hc.mono ?_
      rintro v w9 ⟨b9, k9⟩
      obtain ⟨q9, c9, rfl, _, _⟩ := b9.slice
      exact ⟨_, _, _, rfl, kso k9 but_no z8, wr64 (by omega) ⟨rfl, ⟨3, rfl, by omega, k8.trans k9, by simpa [mbJ] using b9⟩, by first | omega | (dsimp only; omega)⟩⟩
    · refine ⟨l[j].u, rfl, fun _ => ?_⟩
      have hc := c105o w6.heap.size but_no b8 z8 (but_new E8 z8) (by rw [List.length_append]; omega) (w32 l[j].u)
      rw [w32_nat (by omega) (by omega)] at hc
      refine hc.mono ?_
      rintro v w9 ⟨b9, k9⟩
      obtain ⟨q9, c9, rfl, _, _⟩ := b9.slice
      exact ⟨_, _, _, rfl, kso k9 but_no z8, wr64 (by omega) ⟨rfl, ⟨4, rfl, by omega, k8.trans k9, by simpa [mbJ] using b9⟩, by first | omega | (dsimp only; omega)⟩⟩
  have ht4 : t = 4 := by omega
  subst ht4
  refine bufo_str und27 und9 byte5 b8 (but_new E8 z8) (ba l[j].s) (by rw [ba_size, List.length_append]; omega) fun v w9 b9 k9 => ?_
  obtain ⟨q9, c9, rfl, _, _⟩ := b9.slice
  refine ⟨_, _, _, rfl, kso k9 but_no z8, wr64 (by omega) ⟨⟨j + 1, by omega, by omega, ?_, ?_⟩, by first | omega | (dsimp only; omega)⟩⟩
  · exact (((k6.trans kn.wide).trans (but_kp k7)).trans (but_kp k8)).trans (but_kp k9)
  · rw [dirB_step hjl]
    have e : dirB (l.take j) ++ mbB l[j] = dirB (l.take j) ++ mbJ l[j] 4 ++ (ba l[j].s).data.toList := by rw [ba_list, mbB, List.append_assoc]
    rw [e]
    exact b9.kp (Kp.refl none_ _) fun i _ hi => ⟨id, hi.1⟩
end Go.Proofs.YtbpknjldphckgaaDoor
