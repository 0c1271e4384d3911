/- LocalTakes walked. -/
import Derived.Test.YtbpknjldphckgaaDoorQt
namespace Go.Proofs.YtbpknjldphckgaaDoor
open Go Go.SX Go.SX.Crc Go.Proofs Go.Lib
set_option maxRecDepth 100000
set_option linter.unusedVariables false
set_option linter.unusedSimpArgs false
theorem c9 {W : World} (hml : ML W) {q : Option Addr} {c : Nat} {l : List UInt8} (hb : BytesAt W q (ba l)) (hc : l.length ≤ c) (a : Int) : Rets Tryd.prog 9 #[.slice q l.length c, .int .i64 a] W fun v w' => v = .bool true ∧ Kp none_ W w' := by
  refine ent [_, _] Tryd.func9 ((vcTryd9 _ _ _ _ W _).mpr ?_)
  unfold VCTryd9
  simp only [set5_def]
  have live : ∀ {w : World}, Kp none_ W w → Rets Tryd.prog 48 #[] w fun v w' => ∃ t, v = .bool t ∧ Keeps w w' [] ∧ ∃ v, Ending.returned (Value.bool t) = Ending.returned v ∧ v = .bool true ∧ Kp none_ W w' := fun k => (c48 (hml.kp0 k)).mono (by
    rintro v w' ⟨rfl, k2⟩
    exact ⟨_, rfl, k2.keeps0, _, rfl, rfl, k.trans k2⟩)
  have liveK : ∀ {P : World → Prop} {gs : List Nat} {w : World}, Kp none_ W w → (∀ g ∈ gs, g < w.heap.size) → Rets Tryd.prog 48 #[] w fun v w' => ∃ t, v = .bool t ∧ Keeps w w' gs ∧ (P w' → ∃ v, Ending.returned (Value.bool t) = Ending.returned v ∧ v = .bool true ∧ Kp none_ W w') := fun k hg => (c48 (hml.kp0 k)).mono (by
    rintro v w' ⟨rfl, k2⟩
    exact ⟨_, rfl, k2.keeps (fun b hb => ⟨hg b hb, id⟩), fun _ => ⟨_, rfl, rfl, k.trans k2⟩⟩)
  refine bif_dec (fun _ => live (Kp.refl _ _)) (fun hs => ?_)
  refine mk_tab fun w4 w7 k7 t7 _ _ => (c54 (hml.kp0 k7) t7 (hb.kp0 k7) hc (by omega) a).mono ?_
  rintro v w9 ⟨rfl, k9⟩
  have k09 := k7.trans k9
  refine ⟨_, _, _, _, _, _, _, rfl, k9.keeps0, fun _ => ?_⟩
  generalize hG : headF l a = G at *
  have kA := newset (v0 := .int .i64 G.1.m) (v1 := .string (ba G.1.s)) (v2 := .int .i64 G.1.z) (v3 := .int .i64 G.1.a) (v4 := .int .u32 G.1.u) (cs := #[.int .i64 0, .string { data := #[] }, .int .i64 0, .int .i64 0, .int .u32 0]) (e := 54) k09
  have zA : w9.heap.size < (set5 (w9.alloc (.cells #[.int .i64 0, .string { data := #[] }, .int .i64 0, .int .i64 0, .int .u32 0] 54)) w9.heap.size (.int .i64 G.1.m) (.string (ba G.1.s)) (.int .i64 G.1.z) (.int .i64 G.1.a) (.int .u32 G.1.u)).heap.size := newset_lt
  generalize set5 (w9.alloc (.cells #[.int .i64 0, .string { data := #[] }, .int .i64 0, .int .i64 0, .int .u32 0] 54)) w9.heap.size (.int .i64 G.1.m) (.string (ba G.1.s)) (.int .i64 G.1.z) (.int .i64 G.1.a) (.int .u32 G.1.u) = wA at *
  refine (c55 (hb.kp0 kA) hc (by omega) a).mono ?_
  rw [hG]
  rintro v w18 ⟨rfl, k18⟩
  have k018 := kA.trans k18
  refine ⟨_, _, _, _, _, _, _, rfl, k18.k0 zA, ?_⟩
  have kB := newset (v0 := .int .i64 G.1.m) (v1 := .string (ba G.1.s)) (v2 := .int .i64 G.1.z) (v3 := .int .i64 G.1.a) (v4 := .int .u32 G.1.u) (cs := #[.int .i64 0, .string { data := #[] }, .int .i64 0, .int .i64 0, .int .u32 0]) (e := 57) k018
  have zB : w18.heap.size < (set5 (w18.alloc (.cells #[.int .i64 0, .string { data := #[] }, .int .i64 0, .int .i64 0, .int .u32 0] 57)) w18.heap.size (.int .i64 G.1.m) (.string (ba G.1.s)) (.int .i64 G.1.z) (.int .i64 G.1.a) (.int .u32 G.1.u)).heap.size := newset_lt
  have z18 : w9.heap.size < w18.heap.size := Nat.lt_of_lt_of_le zA k18.size
  generalize set5 (w18.alloc (.cells #[.int .i64 0, .string { data := #[] }, .int .i64 0, .int .i64 0, .int .u32 0] 57)) w18.heap.size (.int .i64 G.1.m) (.string (ba G.1.s)) (.int .i64 G.1.z) (.int .i64 G.1.a) (.int .u32 G.1.u) = wB at *
  have gs : ∀ g ∈ [w9.heap.size, w18.heap.size], g < wB.heap.size := fun g hg => by
    simp only [List.mem_cons, List.not_mem_nil, or_false] at hg
    rcases hg with rfl | rfl
    · omega
    · exact zB
  have hbB := hb.kp0 kB
  have hh : ((G.1.m == G.1.m) && ((ba G.1.s).toList == (ba G.1.s).toList && ((G.1.z == G.1.z) && ((G.1.a == G.1.a) && (G.1.u == G.1.u))))) = true := by simp
  have no : ¬ (0 ≤ a ∧ a + 4 ≤ l.length) → ∀ {P Q S : World → Prop}, Rets Tryd.prog 56 #[.slice q l.length c, .int .i64 a] wB fun v w' => ∃ t, v = .bool t ∧ Keeps wB w' [w9.heap.size, w18.heap.size] ∧ bif t == false then P w' → Rets Tryd.prog 48 #[] w' fun v w'' => ∃ t, v = .bool t ∧ Keeps w' w'' [w9.heap.size, w18.heap.size] ∧ (S w'' → ∃ v, Ending.returned (Value.bool t) = Ending.returned v ∧ v = .bool true ∧ Kp none_ W w'') else Q w' → ∃ v, Ending.returned (Value.bool false) = Ending.returned v ∧ v = .bool true ∧ Kp none_ W w' := fun hn P Q S => (c56 hbB hc (by omega) a).mono (by
    rintro v wx ⟨rfl, e⟩
    obtain rfl := e.symm
    rw [decide_eq_false hn, Bool.false_and]
    exact ⟨_, rfl, (Kp.refl none_ _).keeps (fun b hb => ⟨gs b hb, id⟩), fun _ => liveK kB gs⟩)
  refine bif_dec (fun h0 => bif_dec (fun h1 => wr64 (by omega) (bif_dec (fun h4 => wr64 (by omega) ⟨⟨by omega, by omega⟩, ⟨by omega, by omega⟩, ba ((l.drop a.toNat).take 4), ?_, ?_, trivial, bif_b (fun _ => bif_eq (fun _ => bif_eq (fun _ _ => ?_) (fun h => absurd rfl h)) (fun h => absurd rfl h)) (fun h => ?_)⟩) (fun h4 => ⟨trivial, bif_b (fun _ => bif_eq (fun _ => bif_eq (fun _ _ => no (by omega)) (fun h => absurd rfl h)) (fun h => absurd rfl h)) (fun h => ?_)⟩))) (fun h1 => ⟨trivial, bif_b (fun _ => bif_eq (fun _ => bif_eq (fun _ _ => no (by omega)) (fun h => absurd rfl h)) (fun h => absurd rfl h)) (fun h => ?_)⟩)) (fun h0 => ⟨trivial, bif_b (fun _ => bif_eq (fun _ => bif_eq (fun _ _ => no (by omega)) (fun h => absurd rfl h)) (fun h => absurd rfl h)) (fun h => ?_)⟩)
  · rw [ba_size, List.length_take, List.length_drop]; omega
  · exact bytes_drop hbB (by omega) hc
  · refine (c56 hbB hc (by omega) a).mono ?_
    rintro v wx ⟨rfl, e⟩
    obtain rfl := e.symm
    rw [decide_eq_true ⟨by omega, by omega⟩, Bool.true_and, beq_ba]
    refine ⟨_, rfl, (Kp.refl none_ _).keeps (fun b hb => ⟨gs b hb, id⟩), bif_b (fun _ _ => liveK kB gs) (fun h => ?_)⟩
    rw [show bytesL ({ data := #[76, 77, 66, 82] } : ByteArray) = lmbr from rfl] at h
    simp at h
  all_goals
    rw [hh] at h
    cases h
end Go.Proofs.YtbpknjldphckgaaDoor
