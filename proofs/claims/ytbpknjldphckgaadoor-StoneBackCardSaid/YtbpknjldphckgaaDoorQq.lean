/- StoneBack walked. -/
import Derived.Test.YtbpknjldphckgaaDoorQp
import Derived.Test.YtbpknjldphckgaaDoorVcc
namespace Go.Proofs.YtbpknjldphckgaaDoor
open Go Go.SX Go.SX.Crc Go.Proofs Go.Lib
set_option maxRecDepth 100000
set_option linter.unusedVariables false
set_option linter.unusedSimpArgs false
/-- At one place at most one of a head and a tombstone is taken. -/
theorem one_mark (l : List UInt8) (a : Int) (h1 : (stoneF l a).2.2 = 0) (h2 : (headF l a).2.2 = 0) : False := by
  unfold stoneF at h1
  unfold headF at h2
  by_cases h : a < 0 ∨ a > l.length
  · rw [if_pos h] at h1; exact absurd h1 (by decide)
  rw [if_neg h] at h1 h2
  simp only at h1
  generalize l.drop a.toNat = m at *
  by_cases hl : 4 ≤ m.length
  · by_cases ht : m.take 4 = tomb
    · rw [if_pos ⟨hl, fun h => by rw [ht] at h; exact absurd h (by decide)⟩] at h2
      exact absurd h2 (by decide)
    · rw [if_pos ⟨hl, ht⟩] at h1; exact absurd h1 (by decide)
  · rw [if_neg (fun h => hl h.1), if_pos (.inl (by omega))] at h1; exact absurd h1 (by decide)
theorem c12 {W : World} (hm : ML W) (s : ByteArray) {q1 q2 : Option Addr} {c1 c2 : Nat} {p b : List UInt8} (hp : BytesAt W q1 (ba p)) (hb : BytesAt W q2 (ba b)) (hcp : p.length ≤ c1) (hcb : b.length ≤ c2) : Rets Tryd.prog 12 #[.string s, .slice q1 p.length c1, .slice q2 b.length c2] W fun v w' => v = .bool true ∧ Kp none_ W w' := by
  refine ent [_, _, _] Tryd.func12 ((vcTryd12 _ _ _ _ _ _ _ W _).mpr ?_)
  unfold VCTryd12
  simp only [set5_def]
  have live : ∀ {w : World}, Kp none_ W w → Rets Tryd.prog 25 #[] w fun v w' => ∃ t, v = .bool t ∧ Keeps w w' [] ∧ ∃ v, Ending.returned (Value.bool t) = Ending.returned v ∧ v = .bool true ∧ Kp none_ W w' := fun k => (c25 (hm.kp0 k)).mono (by
    rintro v w' ⟨rfl, k2⟩
    exact ⟨_, rfl, k2.keeps0, _, rfl, rfl, k.trans k2⟩)
  have liveK : ∀ {P : World → Prop} {gs : List Nat} {w : World}, Kp none_ W w → (∀ g ∈ gs, g < w.heap.size) → Rets Tryd.prog 25 #[] w fun v w' => ∃ t, v = .bool t ∧ Keeps w w' gs ∧ (P w' → ∃ v, Ending.returned (Value.bool t) = Ending.returned v ∧ v = .bool true ∧ Kp none_ W w') := fun k hg => (c25 (hm.kp0 k)).mono (by
    rintro v w' ⟨rfl, k2⟩
    exact ⟨_, rfl, k2.keeps (fun b hb => ⟨hg b hb, id⟩), fun _ => ⟨_, rfl, rfl, k.trans k2⟩⟩)
  refine bif_dec (fun _ => live (Kp.refl _ _)) (fun hs => bif_dec (fun _ => live (Kp.refl _ _)) (fun hn1 => bif_dec (fun _ => live (Kp.refl _ _)) (fun hn2 => ?_)))
  refine mk_tab fun w4 w7 k7 t7 _ _ => (c27 (hm.kp0 k7) t7 s).mono ?_
  rintro v w8 ⟨q, n, c, rfl, b8, k8⟩
  have k08 := k7.trans k8
  have t8 := t7.kp0 k8
  refine ⟨_, _, _, _, rfl, k8.keeps0, ?_⟩
  cases ho : okName (bytesL s) with
  | false =>
    simp only [Bool.false_eq_true, if_false]
    show Rets Tryd.prog 31 _ _ _
    refine (c31 (hm.kp0 k08) t8 (hb.kp0 k08) hcb (by omega) 0).mono ?_
    rintro v w9 ⟨rfl, k9⟩
    have k09 := k08.trans k9
    refine ⟨_, _, _, rfl, k9.keeps0, (c54 (hm.kp0 k09) (t8.kp0 k9) (hb.kp0 k09) hcb (by omega) 0).mono ?_⟩
    rintro v w10 ⟨rfl, k10⟩
    have k010 := k09.trans k10
    refine ⟨_, _, _, _, _, _, _, rfl, k10.keeps0, bif_ne (fun _ _ => ?_) (fun e1 => bif_ne (fun _ _ => ?_) (fun e2 => (one_mark _ _ e1 e2).elim))⟩
    all_goals exact liveK (newset k010) (fun g hg => by
        simp only [List.mem_cons, List.not_mem_nil, or_false] at hg
        subst hg
        exact newset_lt)
  | true =>
    rw [ho] at b8
    simp only [if_true] at b8 ⊢
    obtain ⟨rfl, hcap⟩ := b8.lens
    have hle := okName_len ho
    have hlb := stoneB_len (bytesL s)
    show Runs Tryd.prog _ _ _
    refine lit_buf und27 byte5 fun v9 w9 b9 k9 => ?_
    obtain ⟨q9, c9, rfl, _, _⟩ := b9.slice
    have k89 : Kp (fun i => w8.heap.size ≤ i) w8 w9 := k9.wide
    refine ⟨_, _, _, rfl, k9.keeps0, buf_app und27 byte5 b9 k89.size rfl (hp.kp0 (k08.trans k9)) (by simp; omega) fun v10 w10 b10 k10 => ?_⟩
    rw [List.nil_append] at b10
    obtain ⟨q10, c10, rfl, _, _⟩ := b10.slice
    have k810 := k89.trans k10
    refine ⟨_, _, _, rfl, k10.keeps0, buf_app und27 byte5 b10 k810.size rfl (b8.bytes.far k810 (Nat.le_refl _)) (by omega) fun v11 w11 b11 k11 => ?_⟩
    obtain ⟨q11, c11, rfl, _, _⟩ := b11.slice
    have k811 := k810.trans k11
    refine ⟨_, _, _, rfl, k11.keeps0, buf_app und27 byte5 b11 k811.size rfl ((hb.kp0 k08).far k811 (Nat.le_refl _)) (by rw [List.length_append]; omega) fun v12 w12 b12 k12 => ?_⟩
    obtain ⟨q12, c12, rfl, hc12, _⟩ := b12.slice
    have k812 : Kp none_ w8 w12 := (k811.trans k12).narrow (Nat.le_refl _)
    have k012 := k08.trans k812
    have hal : (p ++ stoneB (bytesL s) ++ b).length ≤ 1000000 := by simp only [List.length_append]; omega
    refine ⟨_, _, _, rfl, k12.keeps0, (c31 (hm.kp0 k012) (t8.kp0 k812) b12.bytes hc12 hal p.length).mono ?_⟩
    rw [stoneF_put ho p b]
    rintro v w13 ⟨rfl, k13⟩
    have k013 := k012.trans k13
    refine ⟨_, _, _, rfl, k13.keeps0, (c54 (hm.kp0 k013) ((t8.kp0 k812).kp0 k13) (b12.bytes.kp0 k13) hc12 hal p.length).mono ?_⟩
    have nomark : (headF (p ++ stoneB (bytesL s) ++ b) p.length).2.2 ≠ 0 := fun h => one_mark _ _ (by rw [stoneF_put ho p b]) h
    generalize headF (p ++ stoneB (bytesL s) ++ b) p.length = G at *
    rintro v w14 ⟨rfl, k14⟩
    have k014 := k013.trans k14
    have t14 := ((t8.kp0 k812).kp0 k13).kp0 k14
    refine ⟨_, _, _, _, _, _, _, rfl, k14.keeps0, bif_ne (fun h => absurd rfl h) (fun _ => bif_not (fun h => ?_) (fun _ => wr64 (by omega) (bif_ne (fun h => absurd (by show (p.length : Int) + ((9 + (bytesL s).length : Nat) : Int) = _; omega) h) (fun _ => bif_eq (fun h => absurd h nomark) (fun _ _ => ?_)))))⟩
    · rw [beq_ba, beq_self_eq_true] at h
      cases h
    have k015 := newset (v0 := .int .i64 G.1.m) (v1 := .string (ba G.1.s)) (v2 := .int .i64 G.1.z) (v3 := .int .i64 G.1.a) (v4 := .int .u32 G.1.u) (cs := #[.int .i64 0, .string { data := #[] }, .int .i64 0, .int .i64 0, .int .u32 0]) (e := 54) k014
    have t15 : Tab (set5 (w14.alloc (.cells #[.int .i64 0, .string { data := #[] }, .int .i64 0, .int .i64 0, .int .u32 0] 54)) w14.heap.size (.int .i64 G.1.m) (.string (ba G.1.s)) (.int .i64 G.1.z) (.int .i64 G.1.a) (.int .u32 G.1.u)) ⟨w4.heap.size, 0, none⟩ := t14.kp0 (newset (Kp.refl none_ w14))
    have z15 : w14.heap.size < (set5 (w14.alloc (.cells #[.int .i64 0, .string { data := #[] }, .int .i64 0, .int .i64 0, .int .u32 0] 54)) w14.heap.size (.int .i64 G.1.m) (.string (ba G.1.s)) (.int .i64 G.1.z) (.int .i64 G.1.a) (.int .u32 G.1.u)).heap.size := newset_lt
    generalize set5 (w14.alloc (.cells #[.int .i64 0, .string { data := #[] }, .int .i64 0, .int .i64 0, .int .u32 0] 54)) w14.heap.size (.int .i64 G.1.m) (.string (ba G.1.s)) (.int .i64 G.1.z) (.int .i64 G.1.a) (.int .u32 G.1.u) = w15 at *
    refine (c31 (hm.kp0 k015) t15 (hb.kp0 k015) hcb (by omega) 0).mono ?_
    rintro v w16 ⟨rfl, k16⟩
    have k016 := k015.trans k16
    have z16 := Nat.lt_of_lt_of_le z15 k16.size
    refine ⟨_, _, _, rfl, k16.k0 z15, fun _ => (c54 (hm.kp0 k016) (t15.kp0 k16) (hb.kp0 k016) hcb (by omega) 0).mono ?_⟩
    rintro v w17 ⟨rfl, k17⟩
    have k017 := k016.trans k17
    have z17 := Nat.lt_of_lt_of_le z16 k17.size
    refine ⟨_, _, _, _, _, _, _, rfl, k17.k0 z16, bif_ne (fun _ _ => ?_) (fun e1 => bif_ne (fun _ _ => ?_) (fun e2 => (one_mark _ _ e1 e2).elim))⟩
    all_goals exact liveK (newset k017) (fun g hg => by
        simp only [List.mem_cons, List.not_mem_nil, or_false] at hg
        rcases hg with rfl | rfl
        · exact Nat.lt_trans z17 newset_lt
        · exact newset_lt)
end Go.Proofs.YtbpknjldphckgaaDoor
