/- EntryPuts walked. -/
import Derived.Test.YtbpknjldphckgaaDoorEh
namespace Go.Proofs.YtbpknjldphckgaaDoor
open Go Go.SX Go.SX.Crc Go.Proofs Go.Lib
set_option maxRecDepth 100000
set_option linter.unusedVariables false
set_option linter.unusedSimpArgs false
def nameC (b : Mb) : Value := .string (ba b.s)
theorem c42 {w : World} {q : Option Addr} {c : Nat} {l : List Mb} (h : MemsAt w q l) (hl : l.length ≤ 1000000) : Rets Tryd.prog 42 #[.slice q l.length c] w fun v w' => ∃ q' c', v = .slice q' l.length c' ∧ (∀ i (hi : i < l.length), ∃ a, q' = some a ∧ w'.cell? (a.add i) = some (.string (ba l[i].s))) ∧ Kp none_ w w' := by
  refine ent [_] Tryd.func42 ((vcTryd42 _ _ _ w _).mpr ?_)
  unfold VCTryd42
  simp only [set7_def]
  refine ⟨fun i q n c w' => ∃ j : Nat, i = j ∧ j ≤ l.length ∧ Kp (fun i => w.heap.size ≤ i) w w' ∧ OwnRow w' (fun i => w.heap.size ≤ i) 9 1 (.slice q n c) j ((l.take j).map nameC), fun i _ _ _ _ => (l.length - i).toNat, ⟨0, rfl, by omega, Kp.refl _ _, OwnRow.nil _ _ _ _⟩, ?_⟩
  rintro i q3 n4 n5 w6 ⟨j, rfl, hj, k6, o6⟩
  refine bif_dec (fun h1 => ?_) (fun h1 => ⟨_, rfl, ?_⟩)
  rotate_left
  · have ej : j = l.length := by omega
    subst ej
    rw [List.take_of_length_le (Nat.le_refl _)] at o6
    refine ⟨q3, n5, by rw [(o6.lens).1], fun i hi => ?_, k6.narrow (Nat.le_refl _)⟩
    exact o6.at (j := i) (by rw [List.getElem?_map, List.getElem?_eq_getElem hi]; rfl)
  have hjl : j < l.length := by omega
  have hE6 := k6.size
  refine ⟨⟨by omega, by omega⟩, mem_at (h.far k6 (Nat.le_refl _)) hjl fun x hx mx => ⟨_, _, _, _, _, _, _, ⟨mx.c0, mx.c1, mx.c2, mx.c3, mx.c4, mx.c5, mx.c6, trivial⟩, ?_⟩⟩
  have kn := newset7 (v0 := .string (ba l[j].s)) (v1 := .int .i64 l[j].a) (v2 := .int .i64 l[j].f) (v3 := .int .i64 l[j].r) (v4 := .int .i64 l[j].z) (v5 := .int .u32 l[j].u) (v6 := .int .i64 l[j].m) (cs := #[.string { data := #[] }, .int .i64 0, .int .i64 0, .int .i64 0, .int .i64 0, .int .u32 0, .int .i64 0]) (e := 50) (Kp.refl none_ w6)
  have zn : w6.heap.size < (set7 (w6.alloc (.cells #[.string { data := #[] }, .int .i64 0, .int .i64 0, .int .i64 0, .int .i64 0, .int .u32 0, .int .i64 0] 50)) w6.heap.size (.string (ba l[j].s)) (.int .i64 l[j].a) (.int .i64 l[j].f) (.int .i64 l[j].r) (.int .i64 l[j].z) (.int .u32 l[j].u) (.int .i64 l[j].m)).heap.size := newset7_lt
  generalize set7 (w6.alloc (.cells #[.string { data := #[] }, .int .i64 0, .int .i64 0, .int .i64 0, .int .i64 0, .int .u32 0, .int .i64 0] 50)) w6.heap.size (.string (ba l[j].s)) (.int .i64 l[j].a) (.int .i64 l[j].f) (.int .i64 l[j].r) (.int .i64 l[j].z) (.int .u32 l[j].u) (.int .i64 l[j].m) = wn at *
  have on : OwnRow wn (but w.heap.size w6.heap.size) 9 1 (.slice q3 n4 n5) j ((l.take j).map nameC) := (o6.mono (own' := but w.heap.size w6.heap.size) fun i hi hb => ⟨hi, by omega⟩).kp kn fun _ _ _ _ _ h => h
  have ka : Kp none_ wn (wn.alloc (.cells #[.string (ba l[j].s)] 9)) := (Kp.refl none_ wn).alloc1 _
  have B : Big (wn.alloc (.cells #[.string (ba l[j].s)] 9)) wn.heap.size 9 [nameC l[j]] := Big.new wn _ 9
  refine append_own (n := j) (xs := (l.take j).map nameC) (news := [nameC l[j]]) und46 elem9 (by omega) (on.kp ka fun _ _ _ _ _ h => h) rfl (fun k u hk => ?_) (fun u hu => ?_) (by omega) (by omega) fun v' w7 o7 k7 => ?_
  · rw [ad_add, Nat.zero_add, B.cell]
    exact hk
  · rw [List.mem_singleton] at hu
    subst hu
    simp [nameC, Value.oneCell']
  · obtain ⟨q5, c5, rfl⟩ : ∃ q c, v' = .slice q (j + 1) c := o7.slice
    have hka := ka.size
    refine ⟨_, _, _, rfl, kso k7 but_no (by omega), wr64 (by omega) ⟨⟨j + 1, by omega, by omega, ?_, ?_⟩, by first | omega | (dsimp only; omega)⟩⟩
    · exact ((k6.trans kn.wide).trans ka.wide).trans (but_kp k7)
    · rw [List.take_succ_eq_append_getElem hjl, List.map_append]
      refine o7.mono fun i h _ => ?_
      rcases h with h | h
      · exact h.1
      · have h : (wn.alloc _).heap.size ≤ i := h
        omega
theorem c7 {W : World} (hml : ML W) {q : Option Addr} {c : Nat} {l : List Mb} (hq : MemsAt W q l) (hwf : ∀ b ∈ l, b.wf) : Rets Tryd.prog 7 #[.slice q l.length c] W fun v w' => v = .bool true ∧ Kp none_ W w' := by
  refine ent [_] Tryd.func7 ((vcTryd7 _ _ _ W _).mpr ?_)
  unfold VCTryd7
  have live : ∀ {w : World}, Kp none_ W w → Rets Tryd.prog 37 #[] w fun v w' => ∃ t, v = .bool t ∧ Keeps w w' [] ∧ ∃ v, Ending.returned (Value.bool t) = Ending.returned v ∧ v = .bool true ∧ Kp none_ W w' := fun k => (c37 (hml.kp0 k)).mono (by
    rintro v w' ⟨rfl, k2⟩
    exact ⟨_, rfl, k2.keeps0, _, rfl, rfl, k.trans k2⟩)
  refine (c36 hq).mono ?_
  rintro v wx ⟨t, rfl, e, ht⟩
  obtain rfl := e.symm
  refine ⟨_, rfl, (Kp.refl none_ _).keeps0, bif_b (fun _ => live (Kp.refl _ _)) (fun h1 => ?_)⟩
  obtain ⟨hl, hs⟩ := ht h1
  have hs6 : ∀ b ∈ l, b.s.length ≤ 1000000 := fun b hb => by have := hs b hb; omega
  refine (c40 hq (fun b hb => ⟨hs6 b hb, hwf b hb⟩) (by omega)).mono ?_
  rintro v w1 ⟨rfl, k1⟩
  refine ⟨_, rfl, k1.keeps0, (c41 (hml.kp0 k1) (hq.kp0 k1) fun b hb => ⟨hs6 b hb, hwf b hb⟩).mono ?_⟩
  rintro v w2 ⟨q2, n2, c2, rfl, b2, k2⟩
  have k02 := k1.trans k2
  refine ⟨_, _, _, _, rfl, k2.keeps0, (c42 (hq.kp0 k02) (by omega)).mono ?_⟩
  rintro v w3 ⟨q3, c3, rfl, names, k3⟩
  have k03 := k02.trans k3
  refine ⟨_, _, _, rfl, k3.keeps0, (c43 (hml.kp0 k03) (hq.kp0 k03) hs6).mono ?_⟩
  rintro v w4 ⟨rfl, k4⟩
  have k04 := k03.trans k4
  refine ⟨_, rfl, k4.keeps0, bif_b (fun h => by simp at h) (fun _ => bif_ne (fun h => absurd rfl h) (fun _ => ?_))⟩
  refine ⟨fun n i w' => ∃ j : Nat, i = j ∧ j ≤ l.length ∧ n = lenL (l.take j) ∧ Kp none_ w4 w', fun _ i _ => (l.length - i).toNat, ⟨0, rfl, by omega, by simp [lenL], Kp.refl _ _⟩, ?_⟩
  rintro n i w5 ⟨j, rfl, hj, rfl, k5⟩
  have k05 := k04.trans k5
  refine bif_dec (fun hlt => ?_) (fun hge => ?_)
  · have hjl : j < l.length := by omega
    have kd : Kp none_ w5 w5.drew := Kp.drew1
    have k0d := k05.trans kd
    have hm := List.getElem_mem hjl
    have hll := lenL_le hs j
    have hsj := hs _ hm
    refine ⟨⟨by omega, by omega⟩, mem_at (hq.kp0 k0d) hjl fun x _ mx => ⟨_, _, _, _, _, _, _, ⟨mx.c0, mx.c1, mx.c2, mx.c3, mx.c4, mx.c5, mx.c6, trivial⟩, ⟨by omega, by omega⟩, mem_at (hq.kp0 k0d) hjl fun y _ my => ⟨_, _, _, _, _, _, _, ⟨my.c0, my.c1, my.c2, my.c3, my.c4, my.c5, my.c6, trivial⟩, (c44 (hml.kp0 k0d) l[j] (hs6 _ hm)).mono ?_⟩⟩⟩
    rintro v w6 ⟨rfl, k6⟩
    have k06 := k0d.trans k6
    have my6 := my.kp0 k6
    refine ⟨_, rfl, k6.keeps0, ⟨my6.c0, my6.c1, my6.c2, my6.c3, my6.c4, my6.c5, my6.c6, trivial⟩, (c45 l[j] (hs6 _ hm) (hwf _ hm)).mono ?_⟩
    rintro v w7 ⟨rfl, k7⟩
    have k07 := k06.trans k7
    have k37 : Kp none_ w3 w7 := (((k4.trans k5).trans kd).trans k6).trans k7
    obtain ⟨an, hqn, hcn⟩ := names j hjl
    subst hqn
    refine ⟨_, rfl, k7.keeps0, bif_b (fun h => by simp at h) (fun _ => ⟨⟨by omega, by omega⟩, ?_⟩)⟩
    rw [ptr_some]
    refine ⟨ba l[j].s, ?_, ⟨by omega, by omega⟩, mem_at (hq.kp0 k07) hjl fun z _ mz => ⟨_, mz.c0, bif_not (fun h => by simp at h) (fun _ => wr64 (by omega) ⟨⟨by omega, by omega⟩, mem_at (hq.kp0 k07) hjl fun u _ mu => ⟨_, mu.c0, ?_⟩⟩)⟩⟩
    · rw [Int.toNat_natCast, Nat.mul_one]
      exact k37.cell0 hcn
    · rw [ba_size]
      refine wr64 (by omega) (wr64 (by omega) ⟨⟨j + 1, by omega, by omega, ?_, ((k5.trans kd).trans k6).trans k7⟩, by first | omega | (dsimp only; omega)⟩)
      rw [lenL_step hjl]; omega
  · rw [List.take_of_length_le (by omega)]
    refine (c46 (hq.kp0 k05) hs hl).mono ?_
    rintro v w6 ⟨rfl, k6⟩
    have k06 := k05.trans k6
    have b6 := (((b2.kp0 k3).kp0 k4).kp0 k5).kp0 k6
    refine ⟨_, rfl, k6.keeps0, bif_ne (fun h => absurd rfl h) (fun _ => ?_)⟩
    cases ho : okDir l with
    | false =>
      rw [ho] at b6
      simp only [Bool.false_eq_true, if_false] at b6 ⊢
      obtain ⟨rfl, _⟩ := b6.lens
      show cond true (cond true (cond true _ _) _) _
      simp only [cond_true]
      exact live k06
    | true =>
      rw [ho] at b6
      simp only [if_true] at b6 ⊢
      obtain ⟨rfl, _⟩ := b6.lens
      obtain ⟨hlen, hall⟩ := okDir_all ho
      have kd : Kp none_ w6 w6.drew := Kp.drew1
      have b7 := b6.kp0 kd
      refine bif_not (fun h => by cases h) (fun _ => bif_eq (fun _ => ⟨_, ba_size _, b7.bytes, (c47 (hq.kp0 (k06.trans kd)) (fun b hb => ⟨hall b hb, hwf b hb⟩) hl).mono ?_⟩) (fun h => absurd rfl h))
      rintro v w8 ⟨b8, k8⟩
      obtain ⟨q8, c8, rfl, _, _⟩ := b8.slice
      refine ⟨_, _, _, rfl, k8.keeps0, (b7.kp0 k8).bytes, _, ba_size _, b8.bytes, bif_b (fun _ => live ((k06.trans kd).trans k8)) (fun h => by simp at h)⟩
end Go.Proofs.YtbpknjldphckgaaDoor
