/- Members: what may be one; directories of them. -/
import Derived.Test.YtbpknjldphckgaaDoorNa
import Derived.Test.YtbpknjldphckgaaDoorSxMove
import Derived.Test.YtbpknjldphckgaaDoorSxKeys
namespace Go.Proofs.YtbpknjldphckgaaDoor
open Go Go.SX Go.Proofs Go.Lib
set_option maxRecDepth 100000
set_option linter.unusedVariables false
set_option linter.unusedSimpArgs false
theorem c52 (s : ByteArray) (hs : s.size ≤ 1000000000) (w : World) : Rets Tryd.prog 52 #[.string s] w fun v w' => v = .int .i64 (22 + s.size) ∧ w' = w := by
  refine ent [_] Tryd.func52 ((vcTryd52 _ w _).mpr ?_)
  unfold VCTryd52
  exact wr64 (by omega) ⟨_, rfl, rfl, rfl⟩
/-- A member. -/
structure Mb where
  s : List UInt8
  a : Int
  f : Int
  r : Int
  z : Int
  u : Int
  m : Int
  deriving DecidableEq
/-- Its numbers are such as the types have. -/
def Mb.wf (b : Mb) : Prop := (-9223372036854775808 ≤ b.a ∧ b.a < 9223372036854775808) ∧ (-9223372036854775808 ≤ b.f ∧ b.f < 9223372036854775808) ∧ (0 ≤ b.u ∧ b.u < 4294967296)
def mbV (b : Mb) : Value := .agg #[.string (ba b.s), .int .i64 b.a, .int .i64 b.f, .int .i64 b.r, .int .i64 b.z, .int .u32 b.u, .int .i64 b.m]
/-- A member's cells. -/
structure MbAt (w : World) (x : Addr) (b : Mb) : Prop where
  c0 : w.cell? (x.add 0) = some (.string (ba b.s))
  c1 : w.cell? (x.add 1) = some (.int .i64 b.a)
  c2 : w.cell? (x.add 2) = some (.int .i64 b.f)
  c3 : w.cell? (x.add 3) = some (.int .i64 b.r)
  c4 : w.cell? (x.add 4) = some (.int .i64 b.z)
  c5 : w.cell? (x.add 5) = some (.int .u32 b.u)
  c6 : w.cell? (x.add 6) = some (.int .i64 b.m)
/-- A row of members. -/
def MemsAt (w : World) (q : Option Addr) (l : List Mb) : Prop := ∀ i (h : i < l.length), ∃ x, q = some x ∧ MbAt w (x.add (i * 7)) l[i]
theorem MbAt.kp0 {w w' : World} {x : Addr} {b : Mb} (h : MbAt w x b) (k : Kp none_ w w') : MbAt w' x b :=
  ⟨k.cell0 h.c0, k.cell0 h.c1, k.cell0 h.c2, k.cell0 h.c3, k.cell0 h.c4, k.cell0 h.c5, k.cell0 h.c6⟩
theorem MemsAt.kp0 {w w' : World} {q : Option Addr} {l : List Mb} (h : MemsAt w q l) (k : Kp none_ w w') : MemsAt w' q l := fun i hi => by
  obtain ⟨x, e, m⟩ := h i hi
  exact ⟨x, e, m.kp0 k⟩
/-- A member of a row is there. -/
theorem mem_at {w : World} {q : Option Addr} {l : List Mb} (h : MemsAt w q l) {i : Nat} (hi : i < l.length) {K : Addr → Prop} (hK : ∀ x, q = some x → MbAt w (x.add (((i : Int).toNat) * 7)) l[i] → K x) : Ptr q K := by
  obtain ⟨x, e, m⟩ := h i hi
  subst e
  rw [ptr_some]
  exact hK x rfl (by rwa [Int.toNat_natCast])
theorem lit_bytes (s : ByteArray) : ∃ l, s = ba l := ⟨bytesL s, (ba_of s).symm⟩
theorem c119 (n a b : Int) (w : World) : Rets Tryd.prog 119 #[.int .i64 n, .int .i64 a, .int .i64 b] w fun v w' => v = .bool (decide (a ≤ n ∧ n ≤ b)) ∧ w' = w := by
  refine ent [_, _, _] Tryd.func119 ((vcTryd119 _ _ _ w _).mpr ?_)
  unfold VCTryd119
  refine bif_dec (fun h => ⟨_, rfl, ?_, rfl⟩) (fun h => ⟨_, rfl, ?_, rfl⟩)
  · congr 1
    exact decide_eq_decide.2 (by omega)
  · rw [decide_eq_false (by omega)]
/-- Whether a member may be. -/
def okMb (b : Mb) : Bool := okName b.s && decide ((0 ≤ b.m ∧ b.m ≤ 2) ∧ (1024 ≤ b.a ∧ b.a ≤ 1073741824) ∧ b.f = b.a + (22 + b.s.length : Nat) ∧ (0 ≤ b.r ∧ b.r ≤ 262144) ∧ (0 ≤ b.z ∧ b.z ≤ 65536))
theorem mb_eq (a b : Mb) : ((ba a.s).toList == (ba b.s).toList && ((a.a == b.a) && ((a.f == b.f) && ((a.r == b.r) && ((a.z == b.z) && ((a.u == b.u) && (a.m == b.m))))))) = decide (a = b) := by
  rw [beq_ba, show bytesL (ba b.s) = b.s from ba_list _]
  obtain ⟨s, a1, a2, a3, a4, a5, a6⟩ := a
  obtain ⟨t, b1, b2, b3, b4, b5, b6⟩ := b
  simp only [Mb.mk.injEq]
  rw [Bool.eq_iff_iff]
  simp
theorem c39 {w : World} {q r : Option Addr} {c d : Nat} {l m : List Mb} (hq : MemsAt w q l) (hr : MemsAt w r m) (hb : l.length ≤ 1000000) : Rets Tryd.prog 39 #[.slice q l.length c, .slice r m.length d] w fun v w' => v = .bool (decide (l = m)) ∧ Kp none_ w w' := by
  refine ent [_, _] Tryd.func39 ((vcTryd39 _ _ _ _ _ _ w _).mpr ?_)
  unfold VCTryd39
  refine bif_ne (fun hne => ⟨_, rfl, ?_, Kp.refl _ _⟩) (fun he => ?_)
  · rw [decide_eq_false (fun h => hne (by rw [h]))]
  have hl : l.length = m.length := by omega
  refine ⟨fun i w' => ∃ j : Nat, i = j ∧ j ≤ l.length ∧ Kp none_ w w' ∧ l.take j = m.take j, fun i _ => (l.length - i).toNat, ⟨0, rfl, by omega, Kp.refl _ _, by simp⟩, ?_⟩
  rintro i w3 ⟨j, rfl, hj, k3, ht⟩
  refine bif_dec (fun h1 => ?_) (fun h1 => ⟨_, rfl, ?_, k3⟩)
  · have kd : Kp none_ w w3.drew := k3.drew
    have hjl : j < l.length := by omega
    have hjm : j < m.length := by omega
    refine ⟨⟨by omega, by omega⟩, mem_at (hq.kp0 kd) hjl fun x _ mx => ⟨_, _, _, _, _, _, _, ⟨mx.c0, mx.c1, mx.c2, mx.c3, mx.c4, mx.c5, mx.c6, trivial⟩, ⟨by omega, by omega⟩, mem_at (hr.kp0 kd) hjm fun y _ my => ⟨_, _, _, _, _, _, _, ⟨my.c0, my.c1, my.c2, my.c3, my.c4, my.c5, my.c6, trivial⟩, rfl, bif_not (fun hh => ⟨_, rfl, ?_, kd⟩) (fun hh => wr64 (by omega) ⟨⟨j + 1, by omega, by omega, kd, ?_⟩, by first | omega | (dsimp only; omega)⟩)⟩⟩⟩
    · rw [mb_eq] at hh
      have hne := of_decide_eq_false hh
      rw [decide_eq_false (fun h => hne (by subst h; rfl))]
    · rw [mb_eq] at hh
      have hee := of_decide_eq_true hh
      rw [List.take_succ_eq_append_getElem hjl, List.take_succ_eq_append_getElem hjm, ht, hee]
  · have e1 : l.take j = l := List.take_of_length_le (by omega)
    have e2 : m.take j = m := List.take_of_length_le (by omega)
    rw [e1, e2] at ht
    rw [decide_eq_true ht]
def set7 (w : World) (g : Nat) (v0 v1 v2 v3 v4 v5 v6 : Value) : World := ((((((w.setCell ⟨g, 0, none⟩ v0).setCell ⟨g, 1, none⟩ v1).setCell ⟨g, 2, none⟩ v2).setCell ⟨g, 3, none⟩ v3).setCell ⟨g, 4, none⟩ v4).setCell ⟨g, 5, none⟩ v5).setCell ⟨g, 6, none⟩ v6
theorem set7_def (w : World) (g : Nat) (v0 v1 v2 v3 v4 v5 v6 : Value) : ((((((w.setCell ⟨g, 0, none⟩ v0).setCell ⟨g, 1, none⟩ v1).setCell ⟨g, 2, none⟩ v2).setCell ⟨g, 3, none⟩ v3).setCell ⟨g, 4, none⟩ v4).setCell ⟨g, 5, none⟩ v5).setCell ⟨g, 6, none⟩ v6 = set7 w g v0 v1 v2 v3 v4 v5 v6 := rfl
theorem big_set7 {w : World} {g : Nat} {e : TypeId} {a b c d f h i v0 v1 v2 v3 v4 v5 v6 : Value} (H : Big w g e [a, b, c, d, f, h, i]) : Big (set7 w g v0 v1 v2 v3 v4 v5 v6) g e [v0, v1, v2, v3, v4, v5, v6] := ((((((H.set 0 v0).set 1 v1).set 2 v2).set 3 v3).set 4 v4).set 5 v5).set 6 v6
theorem kp_set7 (w : World) (g : Nat) (v0 v1 v2 v3 v4 v5 v6 : Value) : Kp (one_ g) w (set7 w g v0 v1 v2 v3 v4 v5 v6) :=
  (((((((Kp.refl (one_ g) w).setCell (x := ⟨g, 0, none⟩) v0 (.inl rfl)).setCell (x := ⟨g, 1, none⟩) v1 (.inl rfl)).setCell (x := ⟨g, 2, none⟩) v2 (.inl rfl)).setCell (x := ⟨g, 3, none⟩) v3 (.inl rfl)).setCell (x := ⟨g, 4, none⟩) v4 (.inl rfl)).setCell (x := ⟨g, 5, none⟩) v5 (.inl rfl)).setCell (x := ⟨g, 6, none⟩) v6 (.inl rfl)
theorem newset7 {w w' : World} {v0 v1 v2 v3 v4 v5 v6 : Value} {cs : Array Value} {e : TypeId} (k : Kp none_ w w') : Kp none_ w (set7 (w'.alloc (.cells cs e)) w'.heap.size v0 v1 v2 v3 v4 v5 v6) :=
  (((k.alloc1 (.cells cs e)).wide.trans (kpE (kp_set7 _ _ _ _ _ _ _ _ _) k.size)).narrow (Nat.le_refl _))
theorem newset7_lt {w' : World} {v0 v1 v2 v3 v4 v5 v6 : Value} {cs : Array Value} {e : TypeId} : w'.heap.size < (set7 (w'.alloc (.cells cs e)) w'.heap.size v0 v1 v2 v3 v4 v5 v6).heap.size :=
  Nat.lt_of_lt_of_le (by rw [alloc_size]; omega) (kp_set7 (w'.alloc (.cells cs e)) w'.heap.size v0 v1 v2 v3 v4 v5 v6).size
theorem bytesL_ba (l : List UInt8) : bytesL (ba l) = l := ba_list _
theorem toList_ba (l : List UInt8) : (ba l).toList = l := by rw [ByteArray.toList_eq, ba_list]
theorem c44 {w : World} (hml : ML w) (b : Mb) (hl : b.s.length ≤ 1000000) : Rets Tryd.prog 44 #[mbV b] w fun v w' => v = .bool (okMb b) ∧ Kp none_ w w' := by
  refine ent [_] Tryd.func44 ((vcTryd44 _ _ _ _ _ _ _ w _).mpr ?_)
  unfold VCTryd44
  intro _
  have ka : Kp none_ w (w.alloc (.cells #[.string (ba b.s), .int .i64 b.a, .int .i64 b.f, .int .i64 b.r, .int .i64 b.z, .int .u32 b.u, .int .i64 b.m] 50)).drew := ((Kp.refl none_ w).alloc1 _).drew
  have B0 : Big (w.alloc (.cells #[.string (ba b.s), .int .i64 b.a, .int .i64 b.f, .int .i64 b.r, .int .i64 b.z, .int .u32 b.u, .int .i64 b.m] 50)).drew w.heap.size 50 [.string (ba b.s), .int .i64 b.a, .int .i64 b.f, .int .i64 b.r, .int .i64 b.z, .int .u32 b.u, .int .i64 b.m] := Big.new w _ 50
  generalize (w.alloc (.cells #[.string (ba b.s), .int .i64 b.a, .int .i64 b.f, .int .i64 b.r, .int .i64 b.z, .int .u32 b.u, .int .i64 b.m] 50)).drew = w0 at *
  have z0 : w.heap.size < w0.heap.size := B0.lt
  have c1 : w0.cell? ⟨w.heap.size, 1, none⟩ = some (.int .i64 b.a) := B0.cell 1
  have c2 : w0.cell? ⟨w.heap.size, 2, none⟩ = some (.int .i64 b.f) := B0.cell 2
  have fin : ∀ {t : Bool} {w' : World}, Kp none_ w0 w' → okMb b = t → ∃ v, Ending.returned (.bool t) = Ending.returned v ∧ v = .bool (okMb b) ∧ Kp none_ w w' := fun k e => ⟨_, rfl, by rw [e], ka.trans k⟩
  have no : (okName b.s = false ∨ ¬ ((0 ≤ b.m ∧ b.m ≤ 2) ∧ (1024 ≤ b.a ∧ b.a ≤ 1073741824) ∧ b.f = b.a + (22 + b.s.length : Nat) ∧ (0 ≤ b.r ∧ b.r ≤ 262144) ∧ (0 ≤ b.z ∧ b.z ≤ 65536))) → okMb b = false := fun h => by
    unfold okMb
    rcases h with h | h
    · rw [h, Bool.false_and]
    · rw [decide_eq_false h, Bool.and_false]
  have hss : ((ba b.s).size : Int) = b.s.length := by rw [ba_size]
  refine (c119 _ _ _ w0).mono ?_
  rintro v wx ⟨rfl, e⟩
  obtain rfl := e.symm
  refine ⟨_, rfl, (Kp.refl none_ _).k0 z0, bif_dec (fun h1 _ => (c52 _ (by rw [ba_size]; omega) w0).mono ?_) (fun h1 _ => fin (Kp.refl _ _) (no (.inr (by omega))))⟩
  rintro v wx ⟨rfl, e⟩
  obtain rfl := e.symm
  refine ⟨_, rfl, (Kp.refl none_ _).k0 z0, c1, c2, wr64 (by omega) (bif_eq (fun h2 _ => (c104 (hml.kp0 ka) _).mono ?_) (fun h2 _ => fin (Kp.refl _ _) (no (.inr (by omega)))))⟩
  rintro v w1 ⟨rfl, k1⟩
  rw [bytesL_ba]
  have z1 := Nat.lt_of_lt_of_le z0 k1.size
  refine ⟨_, rfl, k1.k0 z0, bif_b (fun h3 _ => (c119 _ _ _ w1).mono ?_) (fun h3 _ => fin k1 (no (.inl h3)))⟩
  rintro v wx ⟨rfl, e⟩
  obtain rfl := e.symm
  refine ⟨_, rfl, (Kp.refl none_ _).k0 z1, bif_dec (fun h4 _ => (c119 _ _ _ w1).mono ?_) (fun h4 _ => fin k1 (no (.inr (by omega))))⟩
  rintro v wx ⟨rfl, e⟩
  obtain rfl := e.symm
  refine ⟨_, rfl, (Kp.refl none_ _).k0 z1, bif_dec (fun h5 _ => (c119 _ _ _ w1).mono ?_) (fun h5 _ => fin k1 (no (.inr (by omega))))⟩
  rintro v wx ⟨rfl, e⟩
  obtain rfl := e.symm
  refine ⟨_, rfl, (Kp.refl none_ _).k0 z1, fun _ => fin k1 ?_⟩
  unfold okMb
  rw [h3, Bool.true_and]
  exact decide_eq_decide.2 (by omega)
theorem c45 {w : World} (b : Mb) (hl : b.s.length ≤ 1000000) (hw : b.wf) : Rets Tryd.prog 45 #[mbV b] w fun v w' => v = .bool (okMb b) ∧ Kp none_ w w' := by
  refine ent [_] Tryd.func45 ((vcTryd45 _ _ _ _ _ _ _ w _).mpr ?_)
  unfold VCTryd45
  intro _
  have ka : Kp none_ w (w.alloc (.cells #[.string (ba b.s), .int .i64 b.a, .int .i64 b.f, .int .i64 b.r, .int .i64 b.z, .int .u32 b.u, .int .i64 b.m] 50)) := (Kp.refl none_ w).alloc1 _
  have z0 : w.heap.size < (w.alloc (.cells #[.string (ba b.s), .int .i64 b.a, .int .i64 b.f, .int .i64 b.r, .int .i64 b.z, .int .u32 b.u, .int .i64 b.m] 50)).heap.size := by rw [alloc_size]; omega
  generalize w.alloc (.cells #[.string (ba b.s), .int .i64 b.a, .int .i64 b.f, .int .i64 b.r, .int .i64 b.z, .int .u32 b.u, .int .i64 b.m] 50) = w0 at *
  have no : (okName b.s = false ∨ ¬ ((0 ≤ b.m ∧ b.m ≤ 2) ∧ (1024 ≤ b.a ∧ b.a ≤ 1073741824) ∧ b.f = b.a + (22 + b.s.length : Nat) ∧ (0 ≤ b.r ∧ b.r ≤ 262144) ∧ (0 ≤ b.z ∧ b.z ≤ 65536))) → okMb b = false := fun h => by
    unfold okMb
    rcases h with h | h
    · rw [h, Bool.false_and]
    · rw [decide_eq_false h, Bool.and_false]
  have hss : ((ba b.s).size : Int) = b.s.length := by rw [ba_size]
  refine (c29 _ w0).mono ?_
  rintro v w1 ⟨rfl, k1⟩
  rw [bytesL_ba]
  have fin : ∀ {t : Bool}, okMb b = t → ∃ v, Ending.returned (.bool t) = Ending.returned v ∧ v = .bool (okMb b) ∧ Kp none_ w w1 := fun e => ⟨_, rfl, by rw [e], ka.trans k1⟩
  obtain ⟨wa, wf, wu⟩ := hw
  refine ⟨_, rfl, k1.k0 z0, bif_not (fun h _ => fin (no (.inl h))) (fun h0 => bif_dec (fun h1 _ => fin (no (.inr (by omega)))) (fun h1 => bif_dec (fun h2 _ => fin (no (.inr (by omega)))) (fun h2 => bif_dec (fun h3 _ => fin (no (.inr (by omega)))) (fun h3 => bif_dec (fun h4 _ => fin (no (.inr (by omega)))) (fun h4 => ?_)))))⟩
  by_cases hbig : b.f - b.a < -9223372036854775808
  · unfold Wr
    have e1 : IntKind.wrap .i64 (b.f - b.a) = b.f - b.a + 18446744073709551616 := by
      simp [IntKind.wrap, IntKind.signed, IntKind.bits]
      omega
    rw [e1, wrap64 (by omega)]
    exact bif_ne (fun _ _ => fin (no (.inr (by omega)))) (fun h => absurd h (by omega))
  refine wr64 (by omega) (wr64 (by omega) (bif_ne (fun h5 _ => fin (no (.inr (by omega)))) (fun h5 => bif_dec (fun h6 _ => fin (no (.inr (by omega)))) (fun h6 => bif_dec (fun h7 _ => fin (no (.inr (by omega)))) (fun h7 => bif_dec (fun h8 _ => fin ?_) (fun h8 _ => fin (no (.inr (by omega)))))))))
  unfold okMb
  rw [h0, Bool.true_and]
  exact decide_eq_decide.2 (by omega)
theorem less_tri : ∀ x y : List UInt8, Op.bytesLess x y = !(Op.bytesLess y x || y == x)
  | [], [] => rfl
  | a :: x, [] => rfl
  | [], b :: y => rfl
  | a :: x, b :: y => by
    unfold Op.bytesLess
    rw [less_tri x y]
    by_cases h1 : a < b
    · have h2 : ¬ b < a := by rw [UInt8.lt_iff_toNat_lt] at *; omega
      have h3 : b ≠ a := fun h => by rw [h, UInt8.lt_iff_toNat_lt] at h1; omega
      simp [h1, h2, h3]
    · by_cases h2 : b < a
      · have h3 : a ≠ b := fun h => by rw [h, UInt8.lt_iff_toNat_lt] at h2; omega
        simp [h1, h2, h3]
      · have h3 : a = b := by
          rw [UInt8.lt_iff_toNat_lt] at h1 h2
          exact UInt8.toNat_inj.1 (by omega)
        subst h3
        simp [h1]
/-- Whether the member at a place may be, and stands behind the one ahead of it. -/
def okAt (l : List Mb) (k : Nat) : Bool := match l[k]? with
  | some b => okMb b && (k == 0 || (match l[k - 1]? with | some p => Op.bytesLess p.s b.s | none => true))
  | none => true
/-- Whether members are a directory. -/
def okDir (l : List Mb) : Bool := decide (l.length ≤ 200) && (List.range l.length).all (okAt l)
theorem okAt_zero {l : List Mb} (h : 0 < l.length) : okAt l 0 = okMb l[0] := by
  unfold okAt
  rw [List.getElem?_eq_getElem h]
  simp
theorem okAt_succ {l : List Mb} {k : Nat} (h : k + 1 < l.length) : okAt l (k + 1) = (okMb l[k + 1] && Op.bytesLess (l[k]'(by omega)).s l[k + 1].s) := by
  unfold okAt
  rw [List.getElem?_eq_getElem h, show k + 1 - 1 = k by omega, List.getElem?_eq_getElem (by omega)]
  simp
theorem okDir_no {l : List Mb} {k : Nat} (hk : k < l.length) (h : okAt l k = false) : okDir l = false := by
  unfold okDir
  rw [Bool.and_eq_false_iff]
  right
  rw [List.all_eq_false]
  exact ⟨k, List.mem_range.2 hk, by rw [h]; decide⟩
theorem okDir_yes {l : List Mb} (hl : l.length ≤ 200) (h : ∀ k, k < l.length → okAt l k = true) : okDir l = true := by
  unfold okDir
  rw [decide_eq_true hl, Bool.true_and, List.all_eq_true]
  exact fun k hk => h k (List.mem_range.1 hk)
theorem c43 {w : World} (hml : ML w) {q : Option Addr} {c : Nat} {l : List Mb} (h : MemsAt w q l) (hs : ∀ b ∈ l, b.s.length ≤ 1000000) : Rets Tryd.prog 43 #[.slice q l.length c] w fun v w' => v = .bool (okDir l) ∧ Kp none_ w w' := by
  refine ent [_] Tryd.func43 ((vcTryd43 _ _ _ w _).mpr ?_)
  unfold VCTryd43
  simp only [set7_def]
  refine bif_dec (fun hb => ⟨_, rfl, ?_, Kp.refl _ _⟩) (fun hb => ?_)
  · unfold okDir; rw [decide_eq_false (by omega), Bool.false_and]
  refine ⟨fun i w' => ∃ j : Nat, i = j ∧ j ≤ l.length ∧ Kp none_ w w' ∧ ∀ k, k < j → okAt l k = true, fun i _ => (l.length - i).toNat, ⟨0, rfl, by omega, Kp.refl _ _, fun k hk => by omega⟩, ?_⟩
  rintro i w3 ⟨j, rfl, hj, k3, ha⟩
  refine bif_dec (fun h1 => ?_) (fun h1 => ⟨_, rfl, ?_, k3⟩)
  rotate_left
  · rw [okDir_yes (by omega) (fun k hk => ha k (by omega))]
  have hjl : j < l.length := by omega
  refine ⟨⟨by omega, by omega⟩, mem_at (h.kp0 k3) hjl fun x hx mx => ⟨_, _, _, _, _, _, _, ⟨mx.c0, mx.c1, mx.c2, mx.c3, mx.c4, mx.c5, mx.c6, trivial⟩, fun _ => ?_⟩⟩
  have kn := (newset7 (v0 := .string (ba l[j].s)) (v1 := .int .i64 l[j].a) (v2 := .int .i64 l[j].f) (v3 := .int .i64 l[j].r) (v4 := .int .i64 l[j].z) (v5 := .int .u32 l[j].u) (v6 := .int .i64 l[j].m) (cs := #[.string { data := #[] }, .int .i64 0, .int .i64 0, .int .i64 0, .int .i64 0, .int .u32 0, .int .i64 0]) (e := 50) k3).drew
  have zn : w3.heap.size < (set7 (w3.alloc (.cells #[.string { data := #[] }, .int .i64 0, .int .i64 0, .int .i64 0, .int .i64 0, .int .u32 0, .int .i64 0] 50)) w3.heap.size (.string (ba l[j].s)) (.int .i64 l[j].a) (.int .i64 l[j].f) (.int .i64 l[j].r) (.int .i64 l[j].z) (.int .u32 l[j].u) (.int .i64 l[j].m)).drew.heap.size := by rw [drew_size]; exact newset7_lt
  generalize (set7 (w3.alloc (.cells #[.string { data := #[] }, .int .i64 0, .int .i64 0, .int .i64 0, .int .i64 0, .int .u32 0, .int .i64 0] 50)) w3.heap.size (.string (ba l[j].s)) (.int .i64 l[j].a) (.int .i64 l[j].f) (.int .i64 l[j].r) (.int .i64 l[j].z) (.int .u32 l[j].u) (.int .i64 l[j].m)).drew = wn at *
  refine (c44 (hml.kp0 kn) l[j] (hs _ (List.getElem_mem hjl))).mono ?_
  rintro v w4 ⟨rfl, k4⟩
  have k04 := kn.trans k4
  refine ⟨_, rfl, k4.k0 zn, bif_not (fun hn _ => ⟨_, rfl, ?_, k04⟩) (fun hy => bif_dec (fun h0 => ?_) (fun h0 => wr64 (by omega) ⟨⟨j + 1, by omega, by omega, k04, fun k hk => ?_⟩, by first | omega | (dsimp only; omega)⟩))⟩
  · rw [okDir_no hjl]
    cases j with
    | zero => rw [okAt_zero hjl, hn]
    | succ j => rw [okAt_succ hjl, hn, Bool.false_and]
  · obtain ⟨j', rfl⟩ : ∃ j', j = j' + 1 := ⟨j - 1, by omega⟩
    have e1 : ((j' + 1 : Nat) : Int) - 1 = ((j' : Nat) : Int) := by omega
    rw [e1]
    refine wr64 (by omega) ⟨⟨by omega, by omega⟩, mem_at (h.kp0 k04) (i := j') (by omega) fun y hy' my => ⟨_, my.c0, ?_⟩⟩
    rw [toList_ba, toList_ba]
    refine bif_not (fun hn _ => ⟨_, rfl, ?_, k04⟩) (fun hl => wr64 (by omega) ⟨⟨j' + 2, by omega, by omega, k04, fun k hk => ?_⟩, by first | omega | (dsimp only; omega)⟩)
    · rw [okDir_no hjl]
      rw [okAt_succ hjl, hn, Bool.and_false]
    · by_cases e : k = j' + 1
      · subst e
        rw [okAt_succ hjl, hy, hl]; rfl
      · exact ha k (by omega)
  · by_cases e : k = j
    · subst e
      have : k = 0 := by omega
      subst this
      rw [okAt_zero hjl, hy]
    · exact ha k (by omega)
theorem c40 {w : World} {q : Option Addr} {c : Nat} {l : List Mb} (h : MemsAt w q l) (hs : ∀ b ∈ l, b.s.length ≤ 1000000 ∧ b.wf) (hlen : l.length ≤ 1000000) : Rets Tryd.prog 40 #[.slice q l.length c] w fun v w' => v = .bool (okDir l) ∧ Kp none_ w w' := by
  refine ent [_] Tryd.func40 ((vcTryd40 _ _ _ w _).mpr ?_)
  unfold VCTryd40
  refine ⟨fun i w' => ∃ j : Nat, i = j ∧ j ≤ l.length ∧ Kp none_ w w' ∧ ∀ k, k < j → okAt l k = true, fun i _ => (l.length - i).toNat, ⟨0, rfl, by omega, Kp.refl _ _, fun k hk => by omega⟩, ?_⟩
  rintro i w3 ⟨j, rfl, hj, k3, ha⟩
  refine bif_dec (fun h1 => ?_) (fun h1 => ⟨_, rfl, ?_, k3⟩)
  rotate_left
  · congr 1
    by_cases hh : l.length ≤ 200
    · rw [okDir_yes hh (fun k hk => ha k (by omega)), decide_eq_true (by omega)]
    · unfold okDir
      rw [decide_eq_false hh, Bool.false_and, decide_eq_false (by omega)]
  have hjl : j < l.length := by omega
  have kd : Kp none_ w w3.drew := k3.drew
  obtain ⟨hs1, hs2⟩ := hs _ (List.getElem_mem hjl)
  refine ⟨⟨by omega, by omega⟩, mem_at (h.kp0 kd) hjl fun x hx mx => ⟨_, _, _, _, _, _, _, ⟨mx.c0, mx.c1, mx.c2, mx.c3, mx.c4, mx.c5, mx.c6, trivial⟩, (c45 l[j] hs1 hs2).mono ?_⟩⟩
  rintro v w4 ⟨rfl, k4⟩
  have k04 := kd.trans k4
  refine ⟨_, rfl, k4.keeps0, bif_not (fun hn => ⟨_, rfl, ?_, k04⟩) (fun hy => bif_dec (fun h0 => ?_) (fun h0 => wr64 (by omega) ⟨⟨j + 1, by omega, by omega, k04, fun k hk => ?_⟩, by first | omega | (dsimp only; omega)⟩))⟩
  · rw [okDir_no hjl]
    cases j with
    | zero => rw [okAt_zero hjl, hn]
    | succ j => rw [okAt_succ hjl, hn, Bool.false_and]
  · obtain ⟨j', rfl⟩ : ∃ j', j = j' + 1 := ⟨j - 1, by omega⟩
    have e1 : ((j' + 1 : Nat) : Int) - 1 = ((j' : Nat) : Int) := by omega
    rw [e1]
    refine ⟨⟨by omega, by omega⟩, mem_at (h.kp0 k04) hjl fun z hz mz => ⟨_, mz.c0, wr64 (by omega) ⟨⟨by omega, by omega⟩, mem_at (h.kp0 k04) (i := j') (by omega) fun y hy' my => ⟨_, my.c0, ?_⟩⟩⟩⟩
    rw [toList_ba, toList_ba]
    have tri := less_tri (l[j']'(by omega)).s l[j' + 1].s
    refine bif_b (fun hn => ⟨_, rfl, ?_, k04⟩) (fun hl => wr64 (by omega) ⟨⟨j' + 2, by omega, by omega, k04, fun k hk => ?_⟩, by first | omega | (dsimp only; omega)⟩)
    · rw [hn] at tri
      rw [okDir_no hjl]
      rw [okAt_succ hjl, tri]; simp
    · rw [hl] at tri
      by_cases e : k = j' + 1
      · subst e
        rw [okAt_succ hjl, hy, tri]; rfl
      · exact ha k (by omega)
  · by_cases e : k = j
    · subst e
      have : k = 0 := by omega
      subst this
      rw [okAt_zero hjl, hy]
    · exact ha k (by omega)
/-- How many bytes members take. -/
def lenL : List Mb → Nat
  | [] => 0
  | b :: r => 18 + b.s.length + lenL r
theorem lenL_app (a b : List Mb) : lenL (a ++ b) = lenL a + lenL b := by
  induction a with
  | nil => simp [lenL]
  | cons x r ih => simp only [List.cons_append, lenL, ih]; omega
theorem lenL_step {l : List Mb} {j : Nat} (h : j < l.length) : lenL (l.take (j + 1)) = lenL (l.take j) + (18 + l[j].s.length) := by
  rw [List.take_succ_eq_append_getElem h, lenL_app]
  simp [lenL]
theorem lenL_le {l : List Mb} (hs : ∀ b ∈ l, b.s.length ≤ 200) : ∀ j, lenL (l.take j) ≤ 218 * j
  | 0 => by simp [lenL]
  | j + 1 => by
    by_cases h : j < l.length
    · rw [lenL_step h]
      have := lenL_le hs j
      have := hs _ (List.getElem_mem h)
      omega
    · have := lenL_le hs j
      rw [List.take_of_length_le (by omega)] at this ⊢
      omega
theorem c46 {w : World} {q : Option Addr} {c : Nat} {l : List Mb} (h : MemsAt w q l) (hs : ∀ b ∈ l, b.s.length ≤ 200) (hl : l.length ≤ 250) : Rets Tryd.prog 46 #[.slice q l.length c] w fun v w' => v = .int .i64 (lenL l) ∧ Kp none_ w w' := by
  refine ent [_] Tryd.func46 ((vcTryd46 _ _ _ w _).mpr ?_)
  unfold VCTryd46
  simp only [set7_def]
  refine ⟨fun i n w' => ∃ j : Nat, i = j ∧ j ≤ l.length ∧ n = lenL (l.take j) ∧ Kp none_ w w', fun i _ _ => (l.length - i).toNat, ⟨0, rfl, by omega, by simp [lenL], Kp.refl _ _⟩, ?_⟩
  rintro i n w3 ⟨j, rfl, hj, rfl, k3⟩
  refine bif_dec (fun h1 => ?_) (fun h1 => ⟨_, rfl, ?_, k3⟩)
  · have hjl : j < l.length := by omega
    have := lenL_le hs j
    have := hs _ (List.getElem_mem hjl)
    refine ⟨⟨by omega, by omega⟩, mem_at (h.kp0 k3) hjl fun x hx mx => ⟨_, _, _, _, _, _, _, ⟨mx.c0, mx.c1, mx.c2, mx.c3, mx.c4, mx.c5, mx.c6, trivial⟩, ?_⟩⟩
    rw [ba_size]
    exact wr64 (by omega) (wr64 (by omega) (wr64 (by omega) ⟨⟨j + 1, by omega, by omega, by rw [lenL_step hjl]; omega, newset7 k3⟩, by first | omega | (dsimp only; omega)⟩))
  · rw [List.take_of_length_le (by omega)]
theorem okMb_facts {b : Mb} (h : okMb b = true) : b.s.length ≤ 64 ∧ (0 ≤ b.m ∧ b.m ≤ 2) ∧ (1024 ≤ b.a ∧ b.a ≤ 1073741824) ∧ b.f = b.a + (22 + b.s.length : Nat) ∧ (0 ≤ b.r ∧ b.r ≤ 262144) ∧ (0 ≤ b.z ∧ b.z ≤ 65536) := by
  unfold okMb at h
  rw [Bool.and_eq_true, decide_eq_true_eq] at h
  exact ⟨okName_len h.1, h.2⟩
theorem okDir_all {l : List Mb} (h : okDir l = true) : l.length ≤ 200 ∧ ∀ b ∈ l, okMb b = true := by
  unfold okDir at h
  rw [Bool.and_eq_true, decide_eq_true_eq, List.all_eq_true] at h
  refine ⟨h.1, fun b hb => ?_⟩
  obtain ⟨k, hk, e⟩ := List.getElem_of_mem hb
  have := h.2 k (List.mem_range.2 hk)
  subst e
  cases k with
  | zero => rwa [okAt_zero hk] at this
  | succ k => rw [okAt_succ hk, Bool.and_eq_true] at this; exact this.1
def mbC (b : Mb) : List Value := [.string (ba b.s), .int .i64 b.a, .int .i64 b.f, .int .i64 b.r, .int .i64 b.z, .int .u32 b.u, .int .i64 b.m]
def memsC : List Mb → List Value
  | [] => []
  | b :: r => mbC b ++ memsC r
theorem memsC_app (a b : List Mb) : memsC (a ++ b) = memsC a ++ memsC b := by
  induction a with
  | nil => simp [memsC]
  | cons x r ih => simp only [List.cons_append, memsC, ih, List.append_assoc]
theorem memsC_get : ∀ (l : List Mb) (i : Nat) (h : i < l.length) (k : Nat), k < 7 → (memsC l)[i * 7 + k]? = (mbC l[i])[k]?
  | b :: r, 0, h, k, hk => by
    rw [memsC, List.getElem?_append_left (by simp [mbC]; omega)]
    simp
  | b :: r, i + 1, h, k, hk => by
    have hl : (mbC b).length = 7 := rfl
    rw [memsC, List.getElem?_append_right (by rw [hl]; omega), hl, show (i + 1) * 7 + k - 7 = i * 7 + k by omega]
    exact memsC_get r i (by simpa using h) k hk
theorem mems_of {w : World} {own : Nat → Prop} {q : Option Addr} {n c : Nat} {l : List Mb} (h : OwnRow w own 50 7 (.slice q n c) l.length (memsC l)) : MemsAt w q l := fun i hi => by
  have at_ : ∀ k u, k < 7 → (mbC l[i])[k]? = some u → ∃ a, q = some a ∧ w.cell? (a.add (i * 7 + k)) = some u := fun k u hk hu => h.at (by rw [memsC_get l i hi k hk]; exact hu)
  obtain ⟨a, e, c0⟩ := at_ 0 _ (by omega) rfl
  have go : ∀ k u, k < 7 → (mbC l[i])[k]? = some u → w.cell? ((a.add (i * 7)).add k) = some u := fun k u hk hu => by
    obtain ⟨a', e', c⟩ := at_ k u hk hu
    rw [e] at e'
    cases e'
    rw [add_add]
    exact c
  exact ⟨a, e, go 0 _ (by omega) rfl, go 1 _ (by omega) rfl, go 2 _ (by omega) rfl, go 3 _ (by omega) rfl, go 4 _ (by omega) rfl, go 5 _ (by omega) rfl, go 6 _ (by omega) rfl⟩
theorem elem50 : elemOk Tryd.prog 50 7 = true := by kernel_rfl
theorem und42 : Tryd.prog.underlying 42 = some (.slice 50) := Tryd.underlying42
def m0 : Mb := ⟨[97], 1024, 1047, 0, 0, 0, 0⟩
theorem okM0 : okDir [m0] = true := by decide +kernel
end Go.Proofs.YtbpknjldphckgaaDoor
