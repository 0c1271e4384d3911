/- Directories. -/
import Derived.Test.YtbpknjldphckgaaDoorEb
namespace Go.Proofs.YtbpknjldphckgaaDoor
open Go Go.SX Go.SX.Crc Go.Proofs Go.Lib
set_option maxRecDepth 100000
set_option linter.unusedVariables false
set_option linter.unusedSimpArgs false
theorem less_tri : ∀ x y : List UInt8, Op.bytesLess x y = !(Op.bytesLess y x || y == x)
  | [], [] => rfl
  | a :: x, [] => rfl
  | [], b :: y => rfl
  | a :: x, b :: y => by
    unfold Op.bytesLess
    rw [less_tri x y]
    by_cases h1 : a < b
    · have h2 : ¬ b < a := by rw [UInt8.lt_iff_toNat_lt] at *; omega
      have h3 : b ≠ a := fun h => by rw [h, UInt8.lt_iff_toNat_lt] at h1; omega
      simp [h1, h2, h3]
    · by_cases h2 : b < a
      · have h3 : a ≠ b := fun h => by rw [h, UInt8.lt_iff_toNat_lt] at h2; omega
        simp [h1, h2, h3]
      · have h3 : a = b := by
          rw [UInt8.lt_iff_toNat_lt] at h1 h2
          exact UInt8.toNat_inj.1 (by omega)
        subst h3
        simp [h1]
/-- Whether the member at a place may be, and stands behind the one ahead of it. -/
def okAt (l : List Mb) (k : Nat) : Bool := match l[k]? with
  | some b => okMb b && (k == 0 || (match l[k - 1]? with | some p => Op.bytesLess p.s b.s | none => true))
  | none => true
/-- Whether members are a directory. -/
def okDir (l : List Mb) : Bool := decide (l.length ≤ 200) && (List.range l.length).all (okAt l)
theorem okAt_zero {l : List Mb} (h : 0 < l.length) : okAt l 0 = okMb l[0] := by
  unfold okAt
  rw [List.getElem?_eq_getElem h]
  simp
theorem okAt_succ {l : List Mb} {k : Nat} (h : k + 1 < l.length) : okAt l (k + 1) = (okMb l[k + 1] && Op.bytesLess (l[k]'(by omega)).s l[k + 1].s) := by
  unfold okAt
  rw [List.getElem?_eq_getElem h, show k + 1 - 1 = k by omega, List.getElem?_eq_getElem (by omega)]
  simp
theorem okDir_no {l : List Mb} {k : Nat} (hk : k < l.length) (h : okAt l k = false) : okDir l = false := by
  unfold okDir
  rw [Bool.and_eq_false_iff]
  right
  rw [List.all_eq_false]
  exact ⟨k, List.mem_range.2 hk, by rw [h]; decide⟩
theorem okDir_yes {l : List Mb} (hl : l.length ≤ 200) (h : ∀ k, k < l.length → okAt l k = true) : okDir l = true := by
  unfold okDir
  rw [decide_eq_true hl, Bool.true_and, List.all_eq_true]
  exact fun k hk => h k (List.mem_range.1 hk)
theorem c43 {w : World} (hml : ML w) {q : Option Addr} {c : Nat} {l : List Mb} (h : MemsAt w q l) (hs : ∀ b ∈ l, b.s.length ≤ 1000000) : Rets Tryd.prog 43 #[.slice q l.length c] w fun v w' => v = .bool (okDir l) ∧ Kp none_ w w' := by
  refine ent [_] Tryd.func43 ((vcTryd43 _ _ _ w _).mpr ?_)
  unfold VCTryd43
  simp only [set7_def]
  refine bif_dec (fun hb => ⟨_, rfl, ?_, Kp.refl _ _⟩) (fun hb => ?_)
  · unfold okDir; rw [decide_eq_false (by omega), Bool.false_and]
  refine ⟨fun i w' => ∃ j : Nat, i = j ∧ j ≤ l.length ∧ Kp none_ w w' ∧ ∀ k, k < j → okAt l k = true, fun i _ => (l.length - i).toNat, ⟨0, rfl, by omega, Kp.refl _ _, fun k hk => by omega⟩, ?_⟩
  rintro i w3 ⟨j, rfl, hj, k3, ha⟩
  refine bif_dec (fun h1 => ?_) (fun h1 => ⟨_, rfl, ?_, k3⟩)
  rotate_left
  · rw [okDir_yes (by omega) (fun k hk => ha k (by omega))]
  have hjl : j < l.length := by omega
  refine ⟨⟨by omega, by omega⟩, mem_at (h.kp0 k3) hjl fun x hx mx => ⟨_, _, _, _, _, _, _, ⟨mx.c0, mx.c1, mx.c2, mx.c3, mx.c4, mx.c5, mx.c6, trivial⟩, fun _ => ?_⟩⟩
  have kn := (newset7 (v0 := .string (ba l[j].s)) (v1 := .int .i64 l[j].a) (v2 := .int .i64 l[j].f) (v3 := .int .i64 l[j].r) (v4 := .int .i64 l[j].z) (v5 := .int .u32 l[j].u) (v6 := .int .i64 l[j].m) (cs := #[.string { data := #[] }, .int .i64 0, .int .i64 0, .int .i64 0, .int .i64 0, .int .u32 0, .int .i64 0]) (e := 50) k3).drew
  have zn : w3.heap.size < (set7 (w3.alloc (.cells #[.string { data := #[] }, .int .i64 0, .int .i64 0, .int .i64 0, .int .i64 0, .int .u32 0, .int .i64 0] 50)) w3.heap.size (.string (ba l[j].s)) (.int .i64 l[j].a) (.int .i64 l[j].f) (.int .i64 l[j].r) (.int .i64 l[j].z) (.int .u32 l[j].u) (.int .i64 l[j].m)).drew.heap.size := by rw [drew_size]; exact newset7_lt
  generalize (set7 (w3.alloc (.cells #[.string { data := #[] }, .int .i64 0, .int .i64 0, .int .i64 0, .int .i64 0, .int .u32 0, .int .i64 0] 50)) w3.heap.size (.string (ba l[j].s)) (.int .i64 l[j].a) (.int .i64 l[j].f) (.int .i64 l[j].r) (.int .i64 l[j].z) (.int .u32 l[j].u) (.int .i64 l[j].m)).drew = wn at *
  refine (c44 (hml.kp0 kn) l[j] (hs _ (List.getElem_mem hjl))).mono ?_
  rintro v w4 ⟨rfl, k4⟩
  have k04 := kn.trans k4
  refine ⟨_, rfl, k4.k0 zn, bif_not (fun hn _ => ⟨_, rfl, ?_, k04⟩) (fun hy => bif_dec (fun h0 => ?_) (fun h0 => wr64 (by omega) ⟨⟨j + 1, by omega, by omega, k04, fun k hk => ?_⟩, by first | omega | (dsimp only; omega)⟩))⟩
  · rw [okDir_no hjl]
    cases j with
    | zero => rw [okAt_zero hjl, hn]
    | succ j => rw [okAt_succ hjl, hn, Bool.false_and]
  · obtain ⟨j', rfl⟩ : ∃ j', j = j' + 1 := ⟨j - 1, by omega⟩
    have e1 : ((j' + 1 : Nat) : Int) - 1 = ((j' : Nat) : Int) := by omega
    rw [e1]
    refine wr64 (by omega) ⟨⟨by omega, by omega⟩, mem_at (h.kp0 k04) (i := j') (by omega) fun y hy' my => ⟨_, my.c0, ?_⟩⟩
    rw [toList_ba, toList_ba]
    refine bif_not (fun hn _ => ⟨_, rfl, ?_, k04⟩) (fun hl => wr64 (by omega) ⟨⟨j' + 2, by omega, by omega, k04, fun k hk => ?_⟩, by first | omega | (dsimp only; omega)⟩)
    · rw [okDir_no hjl]
      rw [okAt_succ hjl, hn, Bool.and_false]
    · by_cases e : k = j' + 1
      · subst e
        rw [okAt_succ hjl, hy, hl]; rfl
      · exact ha k (by omega)
  · by_cases e : k = j
    · subst e
      have : k = 0 := by omega
      subst this
      rw [okAt_zero hjl, hy]
    · exact ha k (by omega)
theorem c40 {w : World} {q : Option Addr} {c : Nat} {l : List Mb} (h : MemsAt w q l) (hs : ∀ b ∈ l, b.s.length ≤ 1000000 ∧ b.wf) (hlen : l.length ≤ 1000000) : Rets Tryd.prog 40 #[.slice q l.length c] w fun v w' => v = .bool (okDir l) ∧ Kp none_ w w' := by
  refine ent [_] Tryd.func40 ((vcTryd40 _ _ _ w _).mpr ?_)
  unfold VCTryd40
  refine ⟨fun i w' => ∃ j : Nat, i = j ∧ j ≤ l.length ∧ Kp none_ w w' ∧ ∀ k, k < j → okAt l k = true, fun i _ => (l.length - i).toNat, ⟨0, rfl, by omega, Kp.refl _ _, fun k hk => by omega⟩, ?_⟩
  rintro i w3 ⟨j, rfl, hj, k3, ha⟩
  refine bif_dec (fun h1 => ?_) (fun h1 => ⟨_, rfl, ?_, k3⟩)
  rotate_left
  · congr 1
    by_cases hh : l.length ≤ 200
    · rw [okDir_yes hh (fun k hk => ha k (by omega)), decide_eq_true (by omega)]
    · unfold okDir
      rw [decide_eq_false hh, Bool.false_and, decide_eq_false (by omega)]
  have hjl : j < l.length := by omega
  have kd : Kp none_ w w3.drew := k3.drew
  obtain ⟨hs1, hs2⟩ := hs _ (List.getElem_mem hjl)
  refine ⟨⟨by omega, by omega⟩, mem_at (h.kp0 kd) hjl fun x hx mx => ⟨_, _, _, _, _, _, _, ⟨mx.c0, mx.c1, mx.c2, mx.c3, mx.c4, mx.c5, mx.c6, trivial⟩, (c45 l[j] hs1 hs2).mono ?_⟩⟩
  rintro v w4 ⟨rfl, k4⟩
  have k04 := kd.trans k4
  refine ⟨_, rfl, k4.keeps0, bif_not (fun hn => ⟨_, rfl, ?_, k04⟩) (fun hy => bif_dec (fun h0 => ?_) (fun h0 => wr64 (by omega) ⟨⟨j + 1, by omega, by omega, k04, fun k hk => ?_⟩, by first | omega | (dsimp only; omega)⟩))⟩
  · rw [okDir_no hjl]
    cases j with
    | zero => rw [okAt_zero hjl, hn]
    | succ j => rw [okAt_succ hjl, hn, Bool.false_and]
  · obtain ⟨j', rfl⟩ : ∃ j', j = j' + 1 := ⟨j - 1, by omega⟩
    have e1 : ((j' + 1 : Nat) : Int) - 1 = ((j' : Nat) : Int) := by omega
    rw [e1]
    refine ⟨⟨by omega, by omega⟩, mem_at (h.kp0 k04) hjl fun z hz mz => ⟨_, mz.c0, wr64 (by omega) ⟨⟨by omega, by omega⟩, mem_at (h.kp0 k04) (i := j') (by omega) fun y hy' my => ⟨_, my.c0, ?_⟩⟩⟩⟩
    rw [toList_ba, toList_ba]
    have tri := less_tri (l[j']'(by omega)).s l[j' + 1].s
    refine bif_b (fun hn => ⟨_, rfl, ?_, k04⟩) (fun hl => wr64 (by omega) ⟨⟨j' + 2, by omega, by omega, k04, fun k hk => ?_⟩, by first | omega | (dsimp only; omega)⟩)
    · rw [hn] at tri
      rw [okDir_no hjl]
      rw [okAt_succ hjl, tri]; simp
    · rw [hl] at tri
      by_cases e : k = j' + 1
      · subst e
        rw [okAt_succ hjl, hy, tri]; rfl
      · exact ha k (by omega)
  · by_cases e : k = j
    · subst e
      have : k = 0 := by omega
      subst this
      rw [okAt_zero hjl, hy]
    · exact ha k (by omega)
/-- How many bytes members take. -/
def lenL : List Mb → Nat
  | [] => 0
  | b :: r => 18 + b.s.length + lenL r
theorem lenL_app (a b : List Mb) : lenL (a ++ b) = lenL a + lenL b := by
  induction a with
  | nil => simp [lenL]
  | cons x r ih => simp only [List.cons_append, lenL, ih]; omega
theorem lenL_step {l : List Mb} {j : Nat} (h : j < l.length) : lenL (l.take (j + 1)) = lenL (l.take j) + (18 + l[j].s.length) := by
  rw [List.take_succ_eq_append_getElem h, lenL_app]
  simp [lenL]
theorem lenL_le {l : List Mb} (hs : ∀ b ∈ l, b.s.length ≤ 200) : ∀ j, lenL (l.take j) ≤ 218 * j
  | 0 => by simp [lenL]
  | j + 1 => by
    by_cases h : j < l.length
    · rw [lenL_step h]
      have := lenL_le hs j
      have := hs _ (List.getElem_mem h)
      omega
    · have := lenL_le hs j
      rw [List.take_of_length_le (by omega)] at this ⊢
      omega
theorem c46 {w : World} {q : Option Addr} {c : Nat} {l : List Mb} (h : MemsAt w q l) (hs : ∀ b ∈ l, b.s.length ≤ 200) (hl : l.length ≤ 250) : Rets Tryd.prog 46 #[.slice q l.length c] w fun v w' => v = .int .i64 (lenL l) ∧ Kp none_ w w' := by
  refine ent [_] Tryd.func46 ((vcTryd46 _ _ _ w _).mpr ?_)
  unfold VCTryd46
  simp only [set7_def]
  refine ⟨fun i n w' => ∃ j : Nat, i = j ∧ j ≤ l.length ∧ n = lenL (l.take j) ∧ Kp none_ w w', fun i _ _ => (l.length - i).toNat, ⟨0, rfl, by omega, by simp [lenL], Kp.refl _ _⟩, ?_⟩
  rintro i n w3 ⟨j, rfl, hj, rfl, k3⟩
  refine bif_dec (fun h1 => ?_) (fun h1 => ⟨_, rfl, ?_, k3⟩)
  · have hjl : j < l.length := by omega
    have := lenL_le hs j
    have := hs _ (List.getElem_mem hjl)
    refine ⟨⟨by omega, by omega⟩, mem_at (h.kp0 k3) hjl fun x hx mx => ⟨_, _, _, _, _, _, _, ⟨mx.c0, mx.c1, mx.c2, mx.c3, mx.c4, mx.c5, mx.c6, trivial⟩, ?_⟩⟩
    rw [ba_size]
    exact wr64 (by omega) (wr64 (by omega) (wr64 (by omega) ⟨⟨j + 1, by omega, by omega, by rw [lenL_step hjl]; omega, newset7 k3⟩, by first | omega | (dsimp only; omega)⟩))
  · rw [List.take_of_length_le (by omega)]
end Go.Proofs.YtbpknjldphckgaaDoor
