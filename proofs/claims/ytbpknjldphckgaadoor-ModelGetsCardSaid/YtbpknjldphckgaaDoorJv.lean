/- Model: what was put is told, walked. -/
import Derived.Test.YtbpknjldphckgaaDoorJu
namespace Go.Proofs.YtbpknjldphckgaaDoor
open Go Go.SX Go.Proofs Go.Lib
set_option maxRecDepth 100000
set_option linter.unusedVariables false
set_option linter.unusedSimpArgs false
theorem c93 {w : World} (hml : ML w) : Rets Tryd.prog 93 #[] w fun v w' => ∃ b, v = pt b ∧ Mo w w' [] b (opnM [] [] []) := by
  refine ent [] Tryd.func93 ((vcTryd93 w _).mpr ?_)
  unfold VCTryd93
  refine (c97 w).mono ?_
  rintro v w1 ⟨rfl, ⟨cm, cn, cd, m1⟩, k1, z1⟩
  have M1 : Mo w w1 [] (w.heap.size + 1) newM := ⟨⟨_, cm, cn, cd, m1, fun i hi => by have := newD_lt hi; exact ⟨by omega, by omega, by simp⟩⟩, k1, fun i hi => by cases hi⟩
  refine ⟨_, rfl, k1.keeps0, bif_b (fun h => by cases h) (fun _ => ?_)⟩
  refine (M1.stepT hml okNew (sm0 _ _ 1 (s := []) (Nat.zero_le _) 0 0 false false) may_make st_make).mono ?_
  rintro v w2 ⟨rfl, M2, k2⟩
  refine ⟨_, rfl, k2.keeps0, bif_not (fun h => by cases h) (fun _ => ?_)⟩
  refine (M2.stepT hml ok_made (sm0 _ _ 2 (s := []) (Nat.zero_le _) 0 0 false false) may_open st_open).mono ?_
  rintro v w3 ⟨rfl, M3, k3⟩
  exact ⟨_, rfl, k3.keeps0, bif_not (fun h => by cases h) (fun _ => ⟨_, rfl, _, rfl, M3⟩)⟩
/-- A variable of great type, laid in pieces. -/
theorem laid7 {w : World} (c : Array Value) (t : TypeId) (v0 v1 v2 v3 v4 v5 v6 : Value) : Kp none_ w ((((((((w.alloc (.cells c t)).setCell ⟨w.heap.size, 0, none⟩ v0).setCell ⟨w.heap.size, 1, none⟩ v1).setCell ⟨w.heap.size, 2, none⟩ v2).setCell ⟨w.heap.size, 3, none⟩ v3).setCell ⟨w.heap.size, 4, none⟩ v4).setCell ⟨w.heap.size, 5, none⟩ v5).setCell ⟨w.heap.size, 6, none⟩ v6).drew ∧
    w.heap.size < ((((((((w.alloc (.cells c t)).setCell ⟨w.heap.size, 0, none⟩ v0).setCell ⟨w.heap.size, 1, none⟩ v1).setCell ⟨w.heap.size, 2, none⟩ v2).setCell ⟨w.heap.size, 3, none⟩ v3).setCell ⟨w.heap.size, 4, none⟩ v4).setCell ⟨w.heap.size, 5, none⟩ v5).setCell ⟨w.heap.size, 6, none⟩ v6).drew.heap.size := by
  constructor
  · have k0 : Kp none_ w (w.alloc (.cells c t)) := (Kp.refl none_ w).alloc1 _
    have st : ∀ {W : World} (i : Nat) (v : Value), Kp none_ w W → Kp none_ w (W.setCell ⟨w.heap.size, i, none⟩ v) := fun i v k => k.setCell (x := ⟨w.heap.size, i, none⟩) v (.inr (Nat.le_refl _))
    exact (st 6 v6 (st 5 v5 (st 4 v4 (st 3 v3 (st 2 v2 (st 1 v1 (st 0 v0 k0))))))).drew
  · simp only [drew_size, set_size, alloc_size]
    omega
theorem ml_pos' {w : World} (h : ML w) : 0 < w.heap.size := by
  obtain ⟨m, h⟩ := h
  exact Nat.lt_of_le_of_lt (Nat.zero_le _) (cell_lt h)
theorem c21 {W0 : World} (hml0 : ML W0) (f : Fx) (hf : DatAt W0 f) {r : Option Addr} {d : Nat} {e : List UInt8} (hr : BytesAt W0 r (ba e)) (hd : e.length ≤ d ∧ d ≤ maxLen) : Rets Tryd.prog 21 #[fxV f, .slice r e.length d] W0 fun v w' => v = .bool true ∧ Kp none_ W0 w' := by
  refine ent [_, _] Tryd.func21 ((vcTryd21 _ _ _ _ _ _ _ W0 _).mpr ?_)
  unfold VCTryd21
  have k0 : Kp none_ W0 (W0.alloc (.cells #[.string (ba f.s), .slice f.q f.d.length f.c] 107)) := (Kp.refl none_ _).alloc1 _
  have z0 : W0.heap.size < (W0.alloc (.cells #[.string (ba f.s), .slice f.q f.d.length f.c] 107)).heap.size := by rw [alloc_size]; omega
  have B0 : Big (W0.alloc (.cells #[.string (ba f.s), .slice f.q f.d.length f.c] 107)) W0.heap.size 107 [.string (ba f.s), .slice f.q f.d.length f.c] := Big.new _ _ 107
  generalize W0.alloc (.cells #[.string (ba f.s), .slice f.q f.d.length f.c] 107) = W at *
  have one : ∀ {w' : World}, Kp none_ W w' → ∀ b ∈ [W0.heap.size], b < w'.heap.size := fun k b hb => by
    rw [List.mem_singleton] at hb
    subst hb
    exact Nat.lt_of_lt_of_le z0 k.size
  have ke : ∀ {w5 w6 : World}, Kp none_ W w5 → Kp none_ w5 w6 → Keeps w5 w6 [W0.heap.size] := fun k k' => k'.keeps fun b hb => ⟨one k b hb, id⟩
  have hml : ML W := hml0.kp0 k0
  have live : ∀ {w' : World}, Kp none_ W w' → ∀ {P : Prop} {Q : World → Prop}, P → Rets Tryd.prog 83 #[] w' fun v w2 => ∃ t : Bool, v = .bool t ∧ Keeps w' w2 [W0.heap.size] ∧ (Q w2 → ∃ v, Ending.returned (.bool t) = Ending.returned v ∧ v = .bool true ∧ Kp none_ W0 w2) := fun k P Q =>
    leafB (c83 (hml.kp0 k) (ml_pos' (hml.kp0 k))) (k0.trans k) (one k) rfl
  intro _
  refine (c29 (ba f.s) W).mono ?_
  rw [bytesL_ba]
  rintro v w1 ⟨rfl, k1⟩
  refine ⟨_, rfl, ke (Kp.refl _ _) k1, bif_not (fun _ => live k1) (fun hok => bif_dec (fun _ => live k1) (fun hfl => bif_dec (fun _ => live k1) (fun hel => ?_)))⟩
  have hsl : f.s.length ≤ 1000000 := by have := okName_len hok; omega
  have hdl : (f.d.length : Int) ≤ 65536 := by omega
  have hdl' : f.d.length ≤ 1000000 := by omega
  have okN : ∀ nm dt, dt.length ≤ 1000000 → OkP (opnM [] nm dt) := fun nm dt h => ok_opn trivial bigNil h
  have ok1 : ∀ nm dt, dt.length ≤ 1000000 → OkP (opnM [(f.s, f.d)] nm dt) := fun nm dt h => ok_opn ⟨fun _ h => (by cases h), trivial⟩ ⟨by simp, fun x hx => by
    rw [List.mem_singleton] at hx
    subst hx
    show f.d.length ≤ _
    omega⟩ h
  refine ⟨fun i w => (i = 0 ∨ i = 1 ∨ i = 2) ∧ Kp none_ W w, fun i _ => (2 - i).toNat, ⟨.inl rfl, k1⟩, ?_⟩
  rintro i w2 ⟨hi, k2⟩ _
  refine bif_dec (fun hi2 => ?_) (fun _ => live k2)
  intro _
  have hml2 := hml.kp0 k2
  have zW2 : W0.heap.size < w2.heap.size := one k2 _ (by simp)
  refine (c93 hml2).mono ?_
  rintro v w3 ⟨b, rfl, M3⟩
  have D : ∀ {w : World}, Kp none_ w2 w → BytesAt w f.q (ba f.d) := fun k => hf.by_.kp0 ((k0.trans k2).trans k)
  have E : ∀ {w : World}, Kp none_ w2 w → BytesAt w r (ba e) := fun k => hr.kp0 ((k0.trans k2).trans k)
  refine ⟨_, rfl, ke k2 M3.kp, bif_b (fun h => by cases h) (fun _ => ?_)⟩
  have in0 : ∀ i ∈ [W0.heap.size], i < w2.heap.size ∨ i ∈ ([] : List Nat) := fun i hi => by
    rw [List.mem_singleton] at hi
    subst hi
    exact .inl zW2
  refine ⟨fun s q n c w => s = ba f.s ∧ q = f.q ∧ n = f.d.length ∧ c = f.c ∧ ∃ nm dt, dt.length ≤ 1000000 ∧ Mo w2 w [] b (opnM [(f.s, f.d)] nm dt), ?_, ?_⟩
  · rintro _ _ _ _ w4 ⟨rfl, rfl, rfl, rfl, nm, dt, hdt, M4⟩ _ _
    have okp := ok1 nm dt hdt
    have okn := okN nm dt hdt
    obtain ⟨k5, z5⟩ := laid7 (w := w4) #[.int .i64 0, .string { data := #[] }, .slice none 0 0, .int .i64 0, .slice none 0 0, .int .i64 0, .int .u8 0] 124 (.int .i64 8) (.string (ba f.s)) (.slice none 0 0) (.int .i64 0) (.slice none 0 0) (.int .i64 0) (.int .u8 0)
    have M5 := M4.more k5 (F' := [w4.heap.size]) (fun i hi => by
      rw [List.mem_singleton] at hi
      subst hi
      exact ⟨z5, .inr (.inr (Nat.le_refl _))⟩)
    have in1 : ∀ i ∈ [W0.heap.size, w4.heap.size], i < w2.heap.size ∨ i ∈ [w4.heap.size] := fun i hi => by
      simp only [List.mem_cons, List.not_mem_nil, or_false] at hi
      rcases hi with rfl | rfl
      · exact .inl zW2
      · exact .inr (by simp)
    simp only
    generalize ((((((((w4.alloc (.cells #[.int .i64 0, .string { data := #[] }, .slice none 0 0, .int .i64 0, .slice none 0 0, .int .i64 0, .int .u8 0] 124)).setCell ⟨w4.heap.size, 0, none⟩ (.int .i64 8)).setCell ⟨w4.heap.size, 1, none⟩ (.string (ba f.s))).setCell ⟨w4.heap.size, 2, none⟩ (.slice none 0 0)).setCell ⟨w4.heap.size, 3, none⟩ (.int .i64 0)).setCell ⟨w4.heap.size, 4, none⟩ (.slice none 0 0)).setCell ⟨w4.heap.size, 5, none⟩ (.int .i64 0)).setCell ⟨w4.heap.size, 6, none⟩ (.int .u8 0)).drew = w5 at *
    have ks : ∀ {w w' : World} {p : MM}, Mo w2 w [w4.heap.size] b p → Kp (away w2 [w4.heap.size]) w w' → Keeps w w' [W0.heap.size, w4.heap.size] := fun m k => away_keeps m k in1
    refine (M5.stepT hml2 okp (smA (k := 8) hsl (D M5.kp) hf.le 0 0 false false) may_own st_get).mono ?_
    rintro v w6 ⟨rfl, M6, k6⟩
    refine ⟨_, rfl, ks M5 k6, bif_not (fun h => by cases h) (fun _ => ?_)⟩
    refine ⟨ba e, ba_size _, E M6.kp, ba f.d, ba_size _, D M6.kp, fun _ => ?_⟩
    have B6 := (B0.kp (k2.trans M6.kp) id)
    refine (M6.stepG hml2 okp (smA (k := 8) hsl (E M6.kp) hd 0 0 false false) may_get st_get).mono ?_
    rintro v w7 ⟨rfl, M7, k7⟩
    refine ⟨_, rfl, ks M6 k7, D M7.kp, by rw [(B0.kp (k2.trans M7.kp) id).cell]; rfl, E M7.kp, ?_⟩
    rw [toList_ba, toList_ba]
    refine bif_not (fun h => by simp at h) (fun _ _ => ?_)
    refine (M7.stepF hml2 okp (sm0 _ _ 8 hsl 7 0 false false) may_get7).mono ?_
    rintro v w8 ⟨rfl, M8, k8⟩
    refine ⟨_, rfl, ks M7 k8, bif_b (fun h => by cases h) (fun _ _ => ?_)⟩
    refine (M8.stepT hml2 okp (sm0 _ _ 9 hsl 0 f.d.length false false) may_stat st_stat).mono ?_
    rintro v w9 ⟨rfl, M9, k9⟩
    refine ⟨_, rfl, ks M8 k9, bif_not (fun h => by cases h) (fun _ _ => ?_)⟩
    have k10 : Kp none_ w9 (w9.alloc (.cells #[.string (ba f.s)] 9)) := (Kp.refl none_ _).alloc1 _
    have S10 : StrsAt (w9.alloc (.cells #[.string (ba f.s)] 9)) (some ⟨w9.heap.size, 0, none⟩) [f.s] := fun i hi => by
      have : i = 0 := by simp at hi; omega
      subst this
      exact ⟨_, rfl, by rw [ad_add]; exact cell_alloc_new rfl⟩
    have M10 := M9.kp0 k10
    refine (M10.stepT hml2 okp (smN (k := 10) (s := []) (Nat.zero_le _) 1 S10 (by simp) 0 0 false false) (may_list hok) st_list).mono ?_
    rintro v w11 ⟨rfl, M11, k11⟩
    refine ⟨_, rfl, ks M10 k11, bif_not (fun h => by cases h) (fun _ _ => ?_)⟩
    refine (M11.stepF hml2 okp (sm0 _ _ 10 (s := []) (Nat.zero_le _) 0 0 false false) (may_list0 hok)).mono ?_
    rintro v w12 ⟨rfl, M12, k12⟩
    refine ⟨_, rfl, ks M11 k12, bif_b (fun h => by cases h) (fun _ _ => ?_)⟩
    refine (M12.stepT hml2 okp (sm0 _ _ 11 hsl 0 0 false false) may_del st_del).mono ?_
    rintro v w13 ⟨rfl, M13, k13⟩
    refine ⟨_, rfl, ks M12 k13, bif_not (fun h => by cases h) (fun _ _ => ?_)⟩
    refine (M13.stepT hml2 okn (sm0 _ _ 8 hsl 7 0 false false) may_gone st_gone).mono ?_
    rintro v w14 ⟨rfl, M14, k14⟩
    refine ⟨_, rfl, ks M13 k14, bif_not (fun h => by cases h) (fun _ _ => ?_)⟩
    refine (M14.stepT hml2 okn (sm0 _ _ 10 (s := []) (Nat.zero_le _) 0 0 false false) may_none st_none).mono ?_
    rintro v w15 ⟨rfl, M15, k15⟩
    refine ⟨_, rfl, ks M14 k15, bif_not (fun h => by cases h) (fun _ => wr64 (by omega) ⟨rfl, ⟨by omega, k2.trans M15.kp⟩, by first | omega | (dsimp only; omega)⟩)⟩
  · have ks : ∀ {w w' : World} {p : MM}, Mo w2 w [] b p → Kp (away w2 []) w w' → Keeps w w' [W0.heap.size] := fun m k => away_keeps m k in0
    refine bif_eq (fun _ _ => ?_) (fun _ _ => ?_)
    · refine (M3.stepT hml2 (okN [] [] (by simp)) (smD (k := 3) hsl (D M3.kp) hf.le hdl' 0 0 false false) (may_put hok hdl) st_put).mono ?_
      rintro v w4 ⟨rfl, M4, k4⟩
      exact ⟨_, rfl, ks M3 k4, bif_not (fun h => by cases h) (fun _ => ⟨rfl, rfl, rfl, rfl, [], [], by simp, M4⟩)⟩
    · refine (M3.stepT hml2 (okN [] [] (by simp)) (sm0 _ _ 4 hsl 0 0 false false) (may_begin hok) st_begin).mono ?_
      rintro v w4 ⟨rfl, M4, k4⟩
      refine ⟨_, rfl, ks M3 k4, bif_not (fun h => by cases h) (fun _ _ => ?_)⟩
      refine (M4.stepT hml2 (ok_str (by simp)) (sm0 _ _ 8 hsl 7 0 false false) may_sget st_sget).mono ?_
      rintro v w5 ⟨rfl, M5, k5⟩
      refine ⟨_, rfl, ks M4 k5, bif_not (fun h => by cases h) (fun _ _ => ?_)⟩
      refine (M5.stepT hml2 (ok_str (by simp)) (sm0 _ _ 3 hsl 8 0 false false) may_sput st_sput).mono ?_
      rintro v w6 ⟨rfl, M6, k6⟩
      refine ⟨_, rfl, ks M5 k6, bif_not (fun h => by cases h) (fun _ _ => ?_)⟩
      refine (M6.stepT hml2 (ok_str (by simp)) (smD (k := 5) (s := []) (Nat.zero_le _) (D M6.kp) hf.le hdl' 0 0 false false) (may_write hdl) st_write).mono ?_
      rintro v w7 ⟨rfl, M7, k7⟩
      refine ⟨_, rfl, ks M6 k7, bif_not (fun h => by cases h) (fun _ _ => ?_)⟩
      refine (M7.stepT hml2 (ok_str (nm := f.s) (dt := f.d) (by omega)) (sm0 _ _ 6 (s := []) (Nat.zero_le _) 0 0 false false) may_fin st_fin).mono ?_
      rintro v w8 ⟨rfl, M8, k8⟩
      exact ⟨_, rfl, ks M7 k8, bif_not (fun h => by cases h) (fun _ => ⟨rfl, rfl, rfl, rfl, f.s, f.d, hdl', M8⟩)⟩
end Go.Proofs.YtbpknjldphckgaaDoor
