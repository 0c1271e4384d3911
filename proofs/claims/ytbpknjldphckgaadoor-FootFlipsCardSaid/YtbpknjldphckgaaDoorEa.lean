/- Members in memory; whether one may be; whether two lists are alike. -/
import Derived.Test.YtbpknjldphckgaaDoorQp
import Derived.Test.YtbpknjldphckgaaDoorVcg
namespace Go.Proofs.YtbpknjldphckgaaDoor
open Go Go.SX Go.SX.Crc Go.Proofs Go.Lib
set_option maxRecDepth 100000
set_option linter.unusedVariables false
set_option linter.unusedSimpArgs false
/-- A member. -/
structure Mb where
  s : List UInt8
  a : Int
  f : Int
  r : Int
  z : Int
  u : Int
  m : Int
  deriving DecidableEq
/-- Its numbers are such as the types have. -/
def Mb.wf (b : Mb) : Prop := (-9223372036854775808 ≤ b.a ∧ b.a < 9223372036854775808) ∧ (-9223372036854775808 ≤ b.f ∧ b.f < 9223372036854775808) ∧ (0 ≤ b.u ∧ b.u < 4294967296)
def mbV (b : Mb) : Value := .agg #[.string (ba b.s), .int .i64 b.a, .int .i64 b.f, .int .i64 b.r, .int .i64 b.z, .int .u32 b.u, .int .i64 b.m]
/-- A member's cells. -/
structure MbAt (w : World) (x : Addr) (b : Mb) : Prop where
  c0 : w.cell? (x.add 0) = some (.string (ba b.s))
  c1 : w.cell? (x.add 1) = some (.int .i64 b.a)
  c2 : w.cell? (x.add 2) = some (.int .i64 b.f)
  c3 : w.cell? (x.add 3) = some (.int .i64 b.r)
  c4 : w.cell? (x.add 4) = some (.int .i64 b.z)
  c5 : w.cell? (x.add 5) = some (.int .u32 b.u)
  c6 : w.cell? (x.add 6) = some (.int .i64 b.m)
/-- A row of members. -/
def MemsAt (w : World) (q : Option Addr) (l : List Mb) : Prop := ∀ i (h : i < l.length), ∃ x, q = some x ∧ MbAt w (x.add (i * 7)) l[i]
theorem MbAt.kp0 {w w' : World} {x : Addr} {b : Mb} (h : MbAt w x b) (k : Kp none_ w w') : MbAt w' x b :=
  ⟨k.cell0 h.c0, k.cell0 h.c1, k.cell0 h.c2, k.cell0 h.c3, k.cell0 h.c4, k.cell0 h.c5, k.cell0 h.c6⟩
theorem MemsAt.kp0 {w w' : World} {q : Option Addr} {l : List Mb} (h : MemsAt w q l) (k : Kp none_ w w') : MemsAt w' q l := fun i hi => by
  obtain ⟨x, e, m⟩ := h i hi
  exact ⟨x, e, m.kp0 k⟩
/-- A member of a row is there. -/
theorem mem_at {w : World} {q : Option Addr} {l : List Mb} (h : MemsAt w q l) {i : Nat} (hi : i < l.length) {K : Addr → Prop} (hK : ∀ x, q = some x → MbAt w (x.add (((i : Int).toNat) * 7)) l[i] → K x) : Ptr q K := by
  obtain ⟨x, e, m⟩ := h i hi
  subst e
  rw [ptr_some]
  exact hK x rfl (by rwa [Int.toNat_natCast])
theorem lit_bytes (s : ByteArray) : ∃ l, s = ba l := ⟨bytesL s, (ba_of s).symm⟩
/-- Whether a list is too great to be gone through. -/
def greatL (l : List Mb) : Prop := 250 < l.length ∨ ∃ b ∈ l, 200 < b.s.length
theorem c36 {w : World} {q : Option Addr} {c : Nat} {l : List Mb} (h : MemsAt w q l) : Rets Tryd.prog 36 #[.slice q l.length c] w fun v w' => ∃ t, v = .bool t ∧ w' = w ∧ (t = false → l.length ≤ 250 ∧ ∀ b ∈ l, b.s.length ≤ 200) := by
  refine ent [_] Tryd.func36 ((vcTryd36 _ _ _ w _).mpr ?_)
  unfold VCTryd36
  refine ⟨fun i w' => ∃ j : Nat, i = j ∧ j ≤ 300 ∧ j ≤ l.length ∧ w' = w ∧ ∀ k (hk : k < l.length), k < j → (l[k]).s.length ≤ 200, fun i _ => (l.length - i).toNat, ⟨0, rfl, by omega, by omega, rfl, fun k hk h => by omega⟩, ?_⟩
  rintro i w' ⟨j, rfl, hj, hjl, rfl, ha⟩
  have fin : (300 ≤ j ∨ l.length ≤ j) → ∃ v, Ending.returned (Value.bool (decide ((l.length : Int) > 250))) = Ending.returned v ∧ ∃ t, v = .bool t ∧ w' = w' ∧ (t = false → l.length ≤ 250 ∧ ∀ b ∈ l, b.s.length ≤ 200) := fun hh => ⟨_, rfl, _, rfl, rfl, fun ht => by
    have hn := of_decide_eq_false ht
    refine ⟨by omega, fun b hb => ?_⟩
    obtain ⟨k, hk, e⟩ := List.getElem_of_mem hb
    rw [← e]
    exact ha k hk (by omega)⟩
  refine bif_dec (fun h1 => bif_dec (fun h2 => ⟨⟨by omega, by omega⟩, mem_at h (by omega) fun x _ m => ⟨_, m.c0, bif_dec (fun h3 => ⟨_, rfl, _, rfl, rfl, fun h => by cases h⟩) (fun h3 => wr64 (by omega) ⟨⟨j + 1, by omega, by omega, by omega, rfl, fun k hk hkj => ?_⟩, by first | omega | (dsimp only; omega)⟩)⟩⟩) (fun h2 => fin (by omega))) (fun h1 => fin (by omega))
  rw [ba_size] at h3
  by_cases e : k = j
  · subst e; omega
  · exact ha k hk (by omega)
theorem c119 (n a b : Int) (w : World) : Rets Tryd.prog 119 #[.int .i64 n, .int .i64 a, .int .i64 b] w fun v w' => v = .bool (decide (a ≤ n ∧ n ≤ b)) ∧ w' = w := by
  refine ent [_, _, _] Tryd.func119 ((vcTryd119 _ _ _ w _).mpr ?_)
  unfold VCTryd119
  refine bif_dec (fun h => ⟨_, rfl, ?_, rfl⟩) (fun h => ⟨_, rfl, ?_, rfl⟩)
  · congr 1
    exact decide_eq_decide.2 (by omega)
  · rw [decide_eq_false (by omega)]
/-- Whether a member may be. -/
def okMb (b : Mb) : Bool := okName b.s && decide ((0 ≤ b.m ∧ b.m ≤ 2) ∧ (1024 ≤ b.a ∧ b.a ≤ 1073741824) ∧ b.f = b.a + (22 + b.s.length : Nat) ∧ (0 ≤ b.r ∧ b.r ≤ 262144) ∧ (0 ≤ b.z ∧ b.z ≤ 65536))
theorem same_at (w : World) {q r : Option Addr} {l m : List Mb} (hq : MemsAt w q l) (hr : MemsAt w r m) : True := trivial
theorem mb_eq (a b : Mb) : ((ba a.s).toList == (ba b.s).toList && ((a.a == b.a) && ((a.f == b.f) && ((a.r == b.r) && ((a.z == b.z) && ((a.u == b.u) && (a.m == b.m))))))) = decide (a = b) := by
  rw [beq_ba, show bytesL (ba b.s) = b.s from ba_list _]
  obtain ⟨s, a1, a2, a3, a4, a5, a6⟩ := a
  obtain ⟨t, b1, b2, b3, b4, b5, b6⟩ := b
  simp only [Mb.mk.injEq]
  rw [Bool.eq_iff_iff]
  simp
theorem c118 {w : World} {q r : Option Addr} {c d : Nat} {l m : List Mb} (hq : MemsAt w q l) (hr : MemsAt w r m) (hb : l.length ≤ 1000000) : Rets Tryd.prog 118 #[.slice q l.length c, .slice r m.length d] w fun v w' => v = .bool (decide (l = m)) ∧ Kp none_ w w' := by
  refine ent [_, _] Tryd.func118 ((vcTryd118 _ _ _ _ _ _ w _).mpr ?_)
  unfold VCTryd118
  refine bif_ne (fun hne => ⟨_, rfl, ?_, Kp.refl _ _⟩) (fun he => ?_)
  · rw [decide_eq_false (fun h => hne (by rw [h]))]
  have hl : l.length = m.length := by omega
  refine ⟨fun i w' => ∃ j : Nat, i = j ∧ j ≤ l.length ∧ Kp none_ w w' ∧ l.take j = m.take j, fun i _ => (l.length - i).toNat, ⟨0, rfl, by omega, Kp.refl _ _, by simp⟩, ?_⟩
  rintro i w3 ⟨j, rfl, hj, k3, ht⟩
  refine bif_dec (fun h1 => ?_) (fun h1 => ⟨_, rfl, ?_, k3⟩)
  · have kd : Kp none_ w w3.drew := k3.drew
    have hjl : j < l.length := by omega
    have hjm : j < m.length := by omega
    refine ⟨⟨by omega, by omega⟩, mem_at (hq.kp0 kd) hjl fun x _ mx => ⟨_, _, _, _, _, _, _, ⟨mx.c0, mx.c1, mx.c2, mx.c3, mx.c4, mx.c5, mx.c6, trivial⟩, ⟨by omega, by omega⟩, mem_at (hr.kp0 kd) hjm fun y _ my => ⟨_, _, _, _, _, _, _, ⟨my.c0, my.c1, my.c2, my.c3, my.c4, my.c5, my.c6, trivial⟩, rfl, bif_not (fun hh => ⟨_, rfl, ?_, kd⟩) (fun hh => wr64 (by omega) ⟨⟨j + 1, by omega, by omega, kd, ?_⟩, by first | omega | (dsimp only; omega)⟩)⟩⟩⟩
    · rw [mb_eq] at hh
      have hne := of_decide_eq_false hh
      rw [decide_eq_false (fun h => hne (by subst h; rfl))]
    · rw [mb_eq] at hh
      have hee := of_decide_eq_true hh
      rw [List.take_succ_eq_append_getElem hjl, List.take_succ_eq_append_getElem hjm, ht, hee]
  · have e1 : l.take j = l := List.take_of_length_le (by omega)
    have e2 : m.take j = m := List.take_of_length_le (by omega)
    rw [e1, e2] at ht
    rw [decide_eq_true ht]
theorem c38 {w : World} {q r : Option Addr} {c d : Nat} {l m : List Mb} (hq : MemsAt w q l) (hr : MemsAt w r m) (hb : l.length ≤ 1000000) : Rets Tryd.prog 38 #[.slice q l.length c, .slice r m.length d] w fun v w' => v = .bool (decide (l = m)) ∧ Kp none_ w w' := by
  refine ent [_, _] Tryd.func38 ((vcTryd38 _ _ _ _ _ _ w _).mpr ?_)
  unfold VCTryd38
  refine (c118 hq hr hb).mono ?_
  rintro v w' ⟨rfl, k⟩
  exact ⟨_, rfl, k.keeps0, _, rfl, rfl, k⟩
theorem c39 {w : World} {q r : Option Addr} {c d : Nat} {l m : List Mb} (hq : MemsAt w q l) (hr : MemsAt w r m) (hb : l.length ≤ 1000000) : Rets Tryd.prog 39 #[.slice q l.length c, .slice r m.length d] w fun v w' => v = .bool (decide (l = m)) ∧ Kp none_ w w' := by
  refine ent [_, _] Tryd.func39 ((vcTryd39 _ _ _ _ _ _ w _).mpr ?_)
  unfold VCTryd39
  refine bif_ne (fun hne => ⟨_, rfl, ?_, Kp.refl _ _⟩) (fun he => ?_)
  · rw [decide_eq_false (fun h => hne (by rw [h]))]
  have hl : l.length = m.length := by omega
  refine ⟨fun i w' => ∃ j : Nat, i = j ∧ j ≤ l.length ∧ Kp none_ w w' ∧ l.take j = m.take j, fun i _ => (l.length - i).toNat, ⟨0, rfl, by omega, Kp.refl _ _, by simp⟩, ?_⟩
  rintro i w3 ⟨j, rfl, hj, k3, ht⟩
  refine bif_dec (fun h1 => ?_) (fun h1 => ⟨_, rfl, ?_, k3⟩)
  · have kd : Kp none_ w w3.drew := k3.drew
    have hjl : j < l.length := by omega
    have hjm : j < m.length := by omega
    refine ⟨⟨by omega, by omega⟩, mem_at (hq.kp0 kd) hjl fun x _ mx => ⟨_, _, _, _, _, _, _, ⟨mx.c0, mx.c1, mx.c2, mx.c3, mx.c4, mx.c5, mx.c6, trivial⟩, ⟨by omega, by omega⟩, mem_at (hr.kp0 kd) hjm fun y _ my => ⟨_, _, _, _, _, _, _, ⟨my.c0, my.c1, my.c2, my.c3, my.c4, my.c5, my.c6, trivial⟩, rfl, bif_not (fun hh => ⟨_, rfl, ?_, kd⟩) (fun hh => wr64 (by omega) ⟨⟨j + 1, by omega, by omega, kd, ?_⟩, by first | omega | (dsimp only; omega)⟩)⟩⟩⟩
    · rw [mb_eq] at hh
      have hne := of_decide_eq_false hh
      rw [decide_eq_false (fun h => hne (by subst h; rfl))]
    · rw [mb_eq] at hh
      have hee := of_decide_eq_true hh
      rw [List.take_succ_eq_append_getElem hjl, List.take_succ_eq_append_getElem hjm, ht, hee]
  · have e1 : l.take j = l := List.take_of_length_le (by omega)
    have e2 : m.take j = m := List.take_of_length_le (by omega)
    rw [e1, e2] at ht
    rw [decide_eq_true ht]
end Go.Proofs.YtbpknjldphckgaaDoor
