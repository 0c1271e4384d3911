import Derived.Test.YtbpknjldphckgaaDoorQb
namespace Go.Proofs.YtbpknjldphckgaaDoor
open Go Go.SX Go.SX.Crc Go.Proofs Go.Lib
set_option maxRecDepth 100000
set_option linter.unusedVariables false
set_option linter.unusedSimpArgs false
/-! ### Numbers in bytes -/
/-- The number that bytes are, the least first. -/
def leN : List UInt8 → Nat
  | [] => 0
  | c :: r => c.toNat + 256 * leN r
theorem leN_lt : ∀ l : List UInt8, leN l < 256 ^ l.length
  | [] => by simp [leN]
  | c :: r => by
    have := leN_lt r
    have hc := c.toNat_lt
    rw [leN, List.length_cons, Nat.pow_succ]
    omega
theorem leN_app : ∀ (l : List UInt8) (c : UInt8), leN (l ++ [c]) = leN l + 256 ^ l.length * c.toNat
  | [], c => by simp [leN]
  | x :: r, c => by
    rw [List.cons_append, leN, leN, leN_app r c, List.length_cons, Nat.pow_succ, Nat.mul_add]
    have : 256 * (256 ^ r.length * c.toNat) = 256 ^ r.length * 256 * c.toNat := by rw [← Nat.mul_assoc, Nat.mul_comm 256]
    omega
theorem leN_lt32 {l : List UInt8} (h : l.length ≤ 4) : leN l < 4294967296 := Nat.lt_of_lt_of_le (leN_lt l) (Nat.pow_le_pow_right (n := 256) (by omega) h)
theorem leN_le4 (X : W32) : leN (le4 X) = X.toNat := by
  have := X.isLt
  simp only [le4, leN, UInt8.toNat_ofNat']
  omega
theorem le4_len (X : W32) : (le4 X).length = 4 := rfl
def widthI (k : Int) : Nat := (max 1 (min 4 k)).toNat
theorem widthI_le (k : Int) : 1 ≤ widthI k ∧ widthI k ≤ 4 := by unfold widthI; omega
theorem maxI_eq (a b : Int) : maxI a b = max a b := by unfold maxI; split <;> omega
theorem minI_eq (a b : Int) : minI a b = min a b := by unfold minI; split <;> omega
theorem c157 (k : Int) (w : World) : Rets Tryd.prog 157 #[.int .i64 k] w fun v w' => v = .int .i64 (widthI k) ∧ w' = w := by
  refine ent [_] Tryd.func157 ((vcTryd157 _ w _).mpr ?_)
  unfold VCTryd157
  refine ⟨_, rfl, ?_, rfl⟩
  rw [maxI_eq, minI_eq]
  unfold widthI
  congr 1
  omega
theorem c164 (k : Int) (w : World) : Rets Tryd.prog 164 #[.int .i64 k] w fun v w' => v = .int .i64 (widthI k) ∧ w' = w := by
  refine ent [_] Tryd.func164 ((vcTryd164 _ w _).mpr ?_)
  unfold VCTryd164 widthI
  refine bif_dec (fun h => ⟨_, rfl, ?_, rfl⟩) (fun h => bif_dec (fun h' => ⟨_, rfl, ?_, rfl⟩) (fun h' => ⟨_, rfl, ?_, rfl⟩)) <;> (congr 1; omega)
/-- The bytes of a number that stands at a place. -/
def numAt (l : List UInt8) (a W : Nat) : Nat := leN ((l.drop a).take W)
theorem or_low {n c : Nat} (hn : n < 16777216) (hc : c < 256) : orI .u32 ((256 * n : Nat) : Int) (c : Int) = ((c + 256 * n : Nat) : Int) := by
  have e1 : ((256 * n : Nat) : Int) = ((BitVec.ofNat 32 (256 * n) : W32).toNat : Int) := by rw [BitVec.toNat_ofNat]; omega
  have e2 : (c : Int) = ((BitVec.ofNat 32 c : W32).toNat : Int) := by rw [BitVec.toNat_ofNat]; omega
  rw [e1, e2, or32, BitVec.toNat_or, BitVec.toNat_ofNat, BitVec.toNat_ofNat, Nat.mod_eq_of_lt (by omega), Nat.mod_eq_of_lt (by omega)]
  have h := Nat.two_pow_add_eq_or_of_lt (i := 8) (b := c) hc n
  have e3 : 2 ^ 8 * n = 256 * n := by rfl
  rw [e3] at h
  rw [← h]
  omega
theorem drop_get {l : List UInt8} {a i : Nat} (h : a + i < l.length) : (l.drop a).take (i + 1) = (l.drop a).take i ++ [l[a + i]] := by
  rw [List.take_succ_eq_append_getElem (by rw [List.length_drop]; omega)]
  simp
theorem drop_cons' {l : List UInt8} {a : Nat} (h : a < l.length) : l.drop a = l[a] :: l.drop (a + 1) := List.drop_eq_getElem_cons h
theorem c159 {w : World} {q : Option Addr} {c : Nat} {l : List UInt8} (hb : BytesAt w q (ba l)) (hl : l.length ≤ 1000000000) (a k : Int) (ha : a ≤ 1000000000) : Rets Tryd.prog 159 #[.slice q l.length c, .int .i64 a, .int .i64 k] w fun v w' =>
    (if 0 ≤ a ∧ a.toNat + widthI k ≤ l.length then v = .tuple #[.int .u32 (numAt l a.toNat (widthI k)), .bool true] else v = .tuple #[.int .u32 0, .bool false]) ∧ w' = w := by
  refine ent [_, _, _] Tryd.func159 ((vcTryd159 _ _ _ _ _ w _).mpr ?_)
  unfold VCTryd159
  refine (c157 k w).mono ?_
  rintro v wx ⟨rfl, e⟩
  obtain rfl := e.symm
  have hW := widthI_le k
  generalize widthI k = W at *
  refine ⟨_, rfl, (Kp.refl none_ _).keeps0, bif_dec (fun h => ⟨_, rfl, by rw [if_neg (by omega)], rfl⟩) (fun h => wr64 (by omega) (bif_dec (fun h' => ⟨_, rfl, by rw [if_neg (by omega)], rfl⟩) (fun h' => wr64 (by omega) ?_)))⟩
  obtain ⟨A, rfl⟩ := Int.eq_ofNat_of_zero_le (show 0 ≤ a by omega)
  simp only [Int.toNat_natCast]
  have hAW : A + W ≤ l.length := by omega
  refine ⟨fun i n w' => ∃ j : Nat, i = ((W - j : Nat) : Int) - 1 ∧ j ≤ W ∧ n = ((leN (((l.drop A).take W).drop (W - j)) : Nat) : Int) ∧ w' = w, fun i _ _ => (i + 1).toNat, ⟨0, by omega, by omega, ?_, rfl⟩, ?_⟩
  · rw [List.drop_eq_nil_of_le (by rw [List.length_take, List.length_drop]; omega)]; rfl
  rintro i n w1 ⟨j, rfl, hj, rfl, rfl⟩
  have hlen : ((l.drop A).take W).length = W := by rw [List.length_take, List.length_drop]; omega
  refine bif_dec (fun hge => ?_) (fun hlt => ⟨_, rfl, ?_, by first | rfl | trivial⟩)
  · have hj' : j < W := by omega
    have hL := leN_lt (((l.drop A).take W).drop (W - j))
    rw [List.length_drop, hlen, show W - (W - j) = j by omega] at hL
    have hp : 256 ^ j ≤ 256 ^ 3 := Nat.pow_le_pow_right (by omega) (by omega)
    have hn24 : leN (((l.drop A).take W).drop (W - j)) < 16777216 := by omega
    have hcons : ((l.drop A).take W).drop (W - (j + 1)) = l[A + (W - j - 1)]'(by omega) :: ((l.drop A).take W).drop (W - j) := by
      rw [List.drop_eq_getElem_cons (by rw [hlen]; omega), show W - (j + 1) + 1 = W - j by omega]
      congr 1
      simp only [List.getElem_take, List.getElem_drop]
      congr 1
    generalize hN : leN (((l.drop A).take W).drop (W - j)) = N at *
    have e1 : shlI .u32 (N : Int) 8 = ((256 * N : Nat) : Int) := by
      unfold shlI
      have : min ((8 : Int)).toNat (IntKind.bits .u32) = 8 := by decide
      rw [this]
      omega
    rw [e1]
    have hc := (l[A + (W - j - 1)]'(by omega)).toNat_lt
    refine ⟨by decide, wr32 (by omega) (wr64 (by omega) ⟨⟨by omega, by omega⟩, bytes_get hb (by omega) (by omega) fun a ha => ?_⟩)⟩
    have e2 : ((A : Int) + (((W - j : Nat) : Int) - 1)).toNat = A + (W - j - 1) := by omega
    simp only [e2]
    refine wr32 (by omega) (wr64 (by omega) ⟨⟨j + 1, by omega, by omega, ?_, by first | rfl | trivial⟩, by first | omega | (dsimp only; omega)⟩)
    rw [or_low hn24 hc, hcons, leN, hN]
  · have : j = W := by omega
    subst this
    rw [if_pos ⟨by omega, by omega⟩, Nat.sub_self, List.drop_zero]
    rfl
theorem c160 {w : World} {q : Option Addr} {c : Nat} {l : List UInt8} (hb : BytesAt w q (ba l)) (hl : l.length ≤ 1000000000) (a k : Int) (ha : a ≤ 1000000000) : Rets Tryd.prog 160 #[.slice q l.length c, .int .i64 a, .int .i64 k] w fun v w' =>
    (if 0 ≤ a ∧ a.toNat + widthI k ≤ l.length then v = .tuple #[.int .u32 (numAt l a.toNat (widthI k)), .bool true] else v = .tuple #[.int .u32 0, .bool false]) ∧ w' = w := by
  refine ent [_, _, _] Tryd.func160 ((vcTryd160 _ _ _ _ _ w _).mpr ?_)
  unfold VCTryd160
  refine (c164 k w).mono ?_
  rintro v wx ⟨rfl, e⟩
  obtain rfl := e.symm
  have hW := widthI_le k
  generalize widthI k = W at *
  refine ⟨_, rfl, (Kp.refl none_ _).keeps0, bif_dec (fun h => ⟨_, rfl, by rw [if_neg (by omega)], rfl⟩) (fun h => bif_dec (fun h2 => ⟨_, rfl, by rw [if_neg (by omega)], rfl⟩) (fun h2 => wr64 (by omega) (bif_dec (fun h' => ⟨_, rfl, by rw [if_neg (by omega)], rfl⟩) (fun h' => ?_))))⟩
  obtain ⟨A, rfl⟩ := Int.eq_ofNat_of_zero_le (show 0 ≤ a by omega)
  simp only [Int.toNat_natCast]
  have hAW : A + W ≤ l.length := by omega
  refine ⟨fun i u n w' => ∃ j : Nat, i = j ∧ j ≤ W ∧ u = (((256 ^ j : Nat) : Int) % 4294967296) ∧ n = ((leN ((l.drop A).take j) : Nat) : Int) ∧ w' = w, fun i _ _ _ => (W - i).toNat, ⟨0, by omega, by omega, rfl, rfl, rfl⟩, ?_⟩
  rintro i u n w1 ⟨j, rfl, hj, rfl, rfl, rfl⟩
  refine bif_dec (fun hlt => ?_) (fun hge => ⟨_, rfl, ?_, by first | rfl | trivial⟩)
  · have hj' : j < W := by omega
    have hL := leN_lt ((l.drop A).take (j + 1))
    have hlen : ((l.drop A).take (j + 1)).length = j + 1 := by rw [List.length_take, List.length_drop]; omega
    have hlen0 : ((l.drop A).take j).length = j := by rw [List.length_take, List.length_drop]; omega
    have hp : 256 ^ (j + 1) ≤ 256 ^ 4 := Nat.pow_le_pow_right (by omega) (by omega)
    have hp3 : 256 ^ j ≤ 256 ^ 3 := Nat.pow_le_pow_right (by omega) (by omega)
    rw [hlen] at hL
    have e0 : leN ((l.drop A).take (j + 1)) = leN ((l.drop A).take j) + 256 ^ j * (l[A + j]'(by omega)).toNat := by rw [drop_get (by omega), leN_app, hlen0]
    have e1 : 256 ^ (j + 1) = 256 ^ j * 256 := Nat.pow_succ ..
    have hc := (l[A + j]'(by omega)).toNat_lt
    generalize leN ((l.drop A).take j) = N at *
    generalize hN' : leN ((l.drop A).take (j + 1)) = N' at *
    refine wr64 (by omega) ⟨⟨by omega, by omega⟩, bytes_get hb (by omega) (by omega) fun a ha => ?_⟩
    have e2 : ((A : Int) + (j : Int)).toNat = A + j := by omega
    simp only [e2]
    generalize (l[A + j]'(by omega)) = x at *
    have em : ((256 ^ j : Nat) : Int) % 4294967296 = ((256 ^ j : Nat) : Int) := by
      generalize 256 ^ j = P at *
      omega
    rw [em]
    have e3 : ((256 ^ j : Nat) : Int) * (x.toNat : Int) = ((256 ^ j * x.toNat : Nat) : Int) := by rw [Int.natCast_mul]
    have e4 : ((256 ^ j : Nat) : Int) * 256 = ((256 ^ (j + 1) : Nat) : Int) := by rw [e1, Int.natCast_mul]; rfl
    have hP0 : 0 ≤ ((256 ^ j * x.toNat : Nat) : Int) := Int.natCast_nonneg _
    have hsum : (N : Int) + ((256 ^ j * x.toNat : Nat) : Int) = (N' : Int) := by omega
    refine wr32 (by omega) ?_
    rw [e3, e4]
    refine wr32 (by omega) (wr32 (by omega) (wrm32 (wr64 (by omega) ⟨⟨j + 1, by omega, by omega, rfl, by rw [hN']; exact hsum, by first | rfl | trivial⟩, by first | omega | (dsimp only; omega)⟩)))
  · have : j = W := by omega
    subst this
    rw [if_pos ⟨by omega, by omega⟩]
    rfl
end Go.Proofs.YtbpknjldphckgaaDoor
