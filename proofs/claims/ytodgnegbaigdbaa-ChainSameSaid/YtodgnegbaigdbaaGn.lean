import Derived.Test.YtodgnegbaigdbaaGm
import Derived.Test.YtodgnegbaigdbaaGh
import Derived.Test.YtodgnegbaigdbaaVch
namespace Go.Proofs.Ytodgnegbaigdbaa
open Go Go.SX Go.Proofs
set_option maxRecDepth 100000
set_option linter.unusedVariables false
set_option linter.unusedSimpArgs false
section
variable {w w' : World} {q : Option Addr} {n cp : Nat} {b : Int → Int}
theorem Two.kpS {S : Nat → Prop} {N : Nat} {x y : Int} (h : Two w N x y) (k : Kp S w w') (hs : ¬ S N) : Two w' N x y := by
  have hl := cell_lt h.1.1
  exact ⟨⟨k.cell h.1.1 hs, (k.frz ⟨N, 0, none⟩ hl).trans h.1.2⟩, ⟨k.cell h.2.1 hs, (k.frz ⟨N, 1, none⟩ hl).trans h.2.2⟩⟩
theorem c15 (hb : Ints w .u8 q n b) (hr : ∀ i : Int, 0 ≤ i → i < n → 0 ≤ b i ∧ b i < 256) (hcp : n ≤ cp) (x y level : Int) :
    Rets Try.prog 15 #[.slice q n cp, .agg #[.int .i64 x, .int .i64 y], .int .i64 level] w fun v w' => v = .bool true ∧ Kp none_ w w' := by
  refine ent [_, _, _] Try.func15 ((vcTry15 _ _ _ _ _ _ w _).mpr ?_)
  unfold VCTry15
  have k1 := (Kp.refl none_ w).alloc1 (.cells #[Value.int .i64 x, Value.int .i64 y] 35)
  have t1 : Two (w.alloc (.cells #[Value.int .i64 x, Value.int .i64 y] 35)) w.heap.size x y := by
    refine ⟨⟨cell_alloc_new rfl, ?_⟩, ⟨cell_alloc_new rfl, ?_⟩⟩ <;> (unfold World.frozen?; rw [alloc_get, if_pos rfl]; simp)
  have s1 : (w.alloc (.cells #[Value.int .i64 x, Value.int .i64 y] 35)).heap.size = w.heap.size + 1 := alloc_size _ _
  generalize w.alloc (.cells #[Value.int .i64 x, Value.int .i64 y] 35) = w1 at *
  generalize hN : w.heap.size = N at *
  refine bif_dec (fun g _ => (c18 w1).mono ?_) (fun g1 => ⟨rfl, rfl, fun _ => ?_⟩)
  · rintro v w2 ⟨e, k2⟩
    exact ⟨true, e, k2.keeps (fun b hb => ⟨by simp at hb; omega, id⟩), fun _ => ⟨_, rfl, rfl, k1.trans k2⟩⟩
  have hn : n ≤ 2147483647 := by omega
  have hdr := depthF_range level
  -- two chains
  refine (c19 (hb.kp0 k1.drew) hr hcp hn).mono ?_
  rintro v w4 ⟨rfl, k4, hC⟩
  have ka := k1.drew.trans k4
  have t4 := (show Two w1.drew N x y from t1).kp k4
  have z4 : w1.heap.size ≤ w4.heap.size := k4.size
  refine ⟨_, rfl, k4.keeps0, _, t4.1.1, t4.1.2, _, t4.2.1, t4.2.2, fun _ => (c19 (hb.kp0 ka) hr hcp hn).mono ?_⟩
  rintro v w9 ⟨rfl, k9, hD⟩
  have kb := ka.trans k9
  have t9 := t4.kp k9
  have z9 := k9.size
  have hC9 : Chn w9 (fun i => w1.heap.size ≤ i ∧ i < w4.heap.size) w1.drew.heap.size q n b 0 := (hC.mono (own' := fun i => w1.heap.size ≤ i ∧ i < w4.heap.size) (fun i hi h => ⟨h, hi⟩) (fun h0 a ha h => hC.qown h0 a ha h.1)).kp k9 (fun _ _ _ => id) (fun _ _ _ => id)
  have hD9 : Chn w9 (fun i => w4.heap.size ≤ i ∧ i < w9.heap.size) w4.heap.size q n b 0 := hD.mono (fun i hi h => ⟨h, hi⟩) (fun h0 a ha h => hD.qown h0 a ha h.1)
  refine ⟨_, rfl, k9.keeps0, _, t9.1.1, t9.1.2, _, t9.2.1, t9.2.2, fun _ => (c33 w9 level).mono ?_⟩
  rintro v wx ⟨rfl, e⟩
  obtain rfl := e.symm
  generalize hdp : depthF level = depth at *
  -- without them
  refine ⟨_, rfl, (Kp.refl none_ _).keeps0, _, t9.1.1, t9.1.2, _, t9.2.1, t9.2.2, fun _ => (c25 (cp := cp) (hb.kp0 kb) hr hcp hn x depth (by omega)).mono ?_⟩
  rintro v wd ⟨rfl, kd⟩
  have kc := kb.trans kd
  have td := t9.kp kd
  refine ⟨_, _, rfl, kd.keeps0, _, td.1.1, td.1.2, _, td.2.1, td.2.2, fun _ => (c25 (cp := cp) (hb.kp0 kc) hr hcp hn y depth (by omega)).mono ?_⟩
  rintro v we ⟨rfl, ke⟩
  have kf := kc.trans ke
  have te := td.kp ke
  have z25 := (kd.trans ke).size
  have hC25 := hC9.kp (kd.trans ke) (fun _ _ _ => id) (fun _ _ _ => id)
  have hD25 := hD9.kp (kd.trans ke) (fun _ _ _ => id) (fun _ _ _ => id)
  -- the first one
  refine ⟨_, _, rfl, ke.keeps0, _, te.1.1, te.1.2, _, te.2.1, te.2.2, fun _ => (c20 hC25 x depth (by omega)).mono ?_⟩
  rintro v w31 ⟨rfl, k31, m31, hC31⟩
  have z31 := k31.size
  have t31 := te.kpS k31 (by omega)
  have kg : Kp none_ w w31 := kf.then k31 (fun i hi h => by omega)
  have lq : 0 < n → ∀ a, q = some a → a.block < N := fun h0 a ha => by
    obtain ⟨a', e, hcl⟩ := hb 0 (by omega) (by omega)
    rw [ha] at e; cases e
    have := cell_lt hcl
    rw [add_block] at this
    omega
  have hD31 := hD25.kp k31 (fun i hi h => by omega) (fun h0 a ha h => by have := lq h0 a ha; omega)
  refine ⟨_, _, rfl, k31.keeps0, _, t31.1.1, t31.1.2, _, t31.2.1, t31.2.2, fun _ => (c20 (hC31.mono (own' := fun i => (w1.heap.size ≤ i ∧ i < w4.heap.size) ∨ (we.heap.size ≤ i ∧ i < w31.heap.size)) (fun i hi h => h.imp id fun h => ⟨h, hi⟩) (fun h0 a ha h => hC31.qown h0 a ha (h.imp id fun h => h.1))) y depth (by omega)).mono ?_⟩
  rintro v w37 ⟨rfl, k37, m37, hC37⟩
  have z37 := k37.size
  have t37 := t31.kpS k37 (by omega)
  have kh : Kp none_ w w37 := kg.then k37 (fun i hi h => by omega)
  have hD37 := hD31.kp k37 (fun i hi h => by omega) (fun h0 a ha h => by have := lq h0 a ha; omega)
  refine ⟨_, _, rfl, k37.keeps0, _, t37.1.1, t37.1.2, _, t37.2.1, t37.2.2, ?_⟩
  -- the second one
  refine bif_ne (fun h => absurd rfl h) (fun _ => bif_ne (fun h => absurd rfl h) (fun _ => bif_ne (fun h => absurd rfl h) (fun _ => bif_ne (fun h => absurd rfl h) (fun _ _ => (c20 hD37 y depth (by omega)).mono ?_))))
  rintro v w43 ⟨rfl, k43, m43, hD43⟩
  have z43 := k43.size
  have t43 := t37.kpS k43 (by omega)
  have ki : Kp none_ w w43 := kh.then k43 (fun i hi h => by omega)
  refine ⟨_, _, rfl, k43.keeps0, _, t43.1.1, t43.1.2, _, t43.2.1, t43.2.2, fun _ => (c20 hD43 x depth (by omega)).mono ?_⟩
  rintro v w49 ⟨rfl, k49, m49, hD49⟩
  have z49 := k49.size
  have o43 : ∀ i, ((w4.heap.size ≤ i ∧ i < w9.heap.size) ∨ fresh w37 i) → N < i := fun i h => by
    rcases h with h | h
    · omega
    · unfold fresh at h; omega
  have t49 := t43.kpS k49 (fun h => by have := o43 _ h; omega)
  have kj : Kp none_ w w49 := ki.then k49 (fun i hi h => by have := o43 _ h; omega)
  refine ⟨_, _, rfl, k49.keeps0, _, t49.1.1, t49.1.2, _, t49.2.1, t49.2.2, ?_⟩
  refine bif_ne (fun h => absurd rfl h) (fun _ => bif_ne (fun h => absurd rfl h) (fun _ => bif_ne (fun h => absurd rfl h) (fun _ => bif_ne (fun h => absurd rfl h) (fun _ _ => (c39 hD49 level).mono ?_))))
  rintro v w55 ⟨q8, c8, rfl, k55, r55⟩
  have z55 := k55.size
  have o49 : ∀ i, (((w4.heap.size ≤ i ∧ i < w9.heap.size) ∨ fresh w37 i) ∨ fresh w43 i) → N < i := fun i h => by
    rcases h with h | h
    · exact o43 i h
    · unfold fresh at h; omega
  have t55 := t49.kpS k55 (fun h => by have := o49 _ h; omega)
  have kk : Kp none_ w w55 := kj.then k55 (fun i hi h => by have := o49 _ h; omega)
  have hk55 := Toks.of r55
  have hlen : (toksF b n level).length ≤ 3000 := by
    have h1 := toks_len (tokAt b n (depthF level) (decide (level ≥ 2))) n 0
    unfold toksF
    omega
  have hE := exF_toksF (b := b) (n := n) (n : Int) level (Int.le_refl _)
  refine ⟨_, _, _, rfl, k55.keeps0, _, t55.1.1, t55.1.2, _, t55.2.1, t55.2.2, fun _ => (c42 hk55 (by omega) n (by omega)).mono ?_⟩
  rintro v w62 ⟨⟨q4, c4, rfl, r4⟩, k62⟩
  have t62 := t55.kp k62
  have kl := kk.trans k62
  refine ⟨_, _, _, _, rfl, k62.keeps0, _, t62.1.1, t62.1.2, _, t62.2.1, t62.2.2, fun _ => (c31 (hb.kp0 kl) hr hcp hn level).mono ?_⟩
  rintro v w70 ⟨q7, c7, rfl, k70, r70⟩
  have t70 := t62.kp k70
  have km := kl.trans k70
  refine ⟨_, _, _, rfl, k70.keeps0, _, t70.1.1, t70.1.2, _, t70.2.1, t70.2.2, fun _ => (c30 (by omega) ((hk55.kp0 k62).kp0 k70) (Toks.of r70)).mono ?_⟩
  rintro v w77 ⟨rfl, k77⟩
  have t77 := t70.kp k77
  have kn := km.trans k77
  rw [hE] at r4 ⊢
  have hsame : strOf (fun i => (bts b n).getD i.toNat 0) 0 (bts b n).length = strOf b 0 n := by
    rw [bts_len]
    exact strOf_congr fun i hi => by simp only [Int.toNat_natCast]; exact bts_get b hi
  have hby := bytesAt_kp0 (row_bytes r4 (bts_range hr)) (k70.trans k77)
  rw [hsame] at hby
  refine ⟨_, rfl, k77.keeps0, _, t77.1.1, t77.1.2, _, t77.2.1, t77.2.2, bif_b (fun _ => bif_eq (fun _ => ⟨strOf b 0 n, by rw [strOf_size, bts_len], hby, strOf b 0 n, strOf_size _ _ _, ints_bytes (hb.kp0 kn) hr, ?_⟩) (fun h => absurd rfl h)) (fun h => by cases h)⟩
  rw [beq_list_self]
  refine bif_b (fun _ _ => (c18 w77).mono ?_) (fun h => by cases h)
  rintro v wz ⟨rfl, kz⟩
  have tz := t77.kp kz
  exact ⟨_, rfl, kz.keeps0, _, tz.1.1, tz.1.2, _, tz.2.1, tz.2.2, fun _ => ⟨_, rfl, rfl, kn.trans kz⟩⟩
end
end Go.Proofs.Ytodgnegbaigdbaa
