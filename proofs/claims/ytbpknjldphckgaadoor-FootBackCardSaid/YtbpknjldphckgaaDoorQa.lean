import Derived.Test.YtbpknjldphckgaaDoorSxBy
import Derived.Test.YtbpknjldphckgaaDoorSxCrc
import Derived.Test.YtbpknjldphckgaaDoorVca
namespace Go.Proofs.YtbpknjldphckgaaDoor
open Go Go.SX Go.SX.Crc Go.Proofs Go.Lib
set_option maxRecDepth 100000
set_option linter.unusedVariables false
set_option linter.unusedSimpArgs false

theorem noNGp : noNG Tryd.prog := by
  have h : (Tryd.prog.funcs.toList.all (fun fn => !(fn.name == "runtime.NumGoroutine"))) = true := by kernel_rfl
  exact h
theorem mixed : Tryd.prog.follows .mixedOrders = true := by kernel_rfl
theorem ent {k : FuncId} {fn : Func} {ann : List (Nat × LoopAnn)} {w : World} {R : Value → World → Prop} (args : List Value) (hf : Tryd.prog.funcs[k]? = some fn)
    (h : vcFn Tryd.prog ann fn (args.map SV.v) [] w (fun e w' => ∃ v, e = .returned v ∧ R v w')) : Rets Tryd.prog k args.toArray w R := by
  have := vcFn_sound noNGp mixed hf Sat.plain h
  simp only [List.map_map] at this
  have e : args.map (SV.val ∘ SV.v) = args := by
    rw [show (SV.val ∘ SV.v) = id from rfl]; simp
  rw [e] at this
  exact this
theorem ptr_some (a : Addr) (K : Addr → Prop) : Ptr (some a) K = K a := rfl
theorem byte5 : byteT Tryd.prog 5 := by
  have h : (Tryd.prog.info? 5).map (fun i => (i.zero, i.size, i.bytes)) = some (some (.int .u8 0), 1, 1) := by kernel_rfl
  obtain ⟨i, hi, hh⟩ := Option.map_eq_some_iff.1 h
  simp only [Prod.mk.injEq] at hh
  exact ⟨i, hi, hh⟩
/-! ### Words of 32 bits -/
theorem wrap32 {z : Int} (h : 0 ≤ z ∧ z < 4294967296) : IntKind.wrap .u32 z = z := by
  simp [IntKind.wrap, IntKind.bits, IntKind.signed]; omega
theorem wr32 {z : Int} {K : Int → Prop} (h : 0 ≤ z ∧ z < 4294967296) (hK : K z) : Wr .u32 z K := by
  unfold Wr; rw [wrap32 h]; exact hK
theorem wrm32 {z : Int} {K : Int → Prop} (hK : K (z % 4294967296)) : Wr .u32 z K := by
  unfold Wr
  have : IntKind.wrap .u32 z = z % 4294967296 := by simp [IntKind.wrap, IntKind.bits, IntKind.signed]
  rw [this]; exact hK
theorem wrm8 {z : Int} {K : Int → Prop} (hK : K (z % 256)) : Wr .u8 z K := by
  unfold Wr
  have : IntKind.wrap .u8 z = z % 256 := by simp [IntKind.wrap, IntKind.bits, IntKind.signed]
  rw [this]; exact hK
theorem bv32 (X : W32) : BitVec.ofInt 32 (X.toNat : Int) = X := by
  apply BitVec.eq_of_toNat_eq
  rw [BitVec.toNat_ofInt]
  have := X.isLt
  omega
theorem xor32 (X Y : W32) : xorI .u32 (X.toNat : Int) (Y.toNat : Int) = ((X ^^^ Y).toNat : Int) := by
  show IntKind.wrap .u32 (((BitVec.ofInt 32 (X.toNat : Int)) ^^^ (BitVec.ofInt 32 (Y.toNat : Int))).toNat : Nat) = _
  rw [bv32, bv32, wrap32 (by have := (X ^^^ Y).isLt; omega)]
theorem or32 (X Y : W32) : orI .u32 (X.toNat : Int) (Y.toNat : Int) = ((X ||| Y).toNat : Int) := by
  show IntKind.wrap .u32 (((BitVec.ofInt 32 (X.toNat : Int)) ||| (BitVec.ofInt 32 (Y.toNat : Int))).toNat : Nat) = _
  rw [bv32, bv32, wrap32 (by have := (X ||| Y).isLt; omega)]
theorem and32 (X Y : W32) : andI .u32 (X.toNat : Int) (Y.toNat : Int) = ((X &&& Y).toNat : Int) := by
  show IntKind.wrap .u32 (((BitVec.ofInt 32 (X.toNat : Int)) &&& (BitVec.ofInt 32 (Y.toNat : Int))).toNat : Nat) = _
  rw [bv32, bv32, wrap32 (by have := (X &&& Y).isLt; omega)]
theorem shr32 (X : W32) {k : Nat} (hk : k ≤ 32) : shrI .u32 (X.toNat : Int) (k : Int) = ((X >>> k).toNat : Int) := by
  unfold shrI
  rw [BitVec.toNat_ushiftRight, Nat.shiftRight_eq_div_pow]
  have : min ((k : Int)).toNat (IntKind.bits .u32) = k := by show min _ 32 = k; omega
  rw [this, Int.fdiv_eq_ediv_of_nonneg _ (Int.le_of_lt (Int.pow_pos (by omega)))]
  simp
theorem bv8 (a : UInt8) : BitVec.ofInt 8 (a.toNat : Int) = a.toBitVec := by
  apply BitVec.eq_of_toNat_eq
  rw [BitVec.toNat_ofInt]
  have := a.toNat_lt
  show _ = a.toNat
  omega
theorem xor8 (a b : UInt8) : xorI .u8 (a.toNat : Int) (b.toNat : Int) = ((a.toNat ^^^ b.toNat : Nat) : Int) := by
  show IntKind.wrap .u8 (((BitVec.ofInt 8 (a.toNat : Int)) ^^^ (BitVec.ofInt 8 (b.toNat : Int))).toNat : Nat) = _
  rw [bv8, bv8, BitVec.toNat_xor]
  have h : a.toBitVec.toNat ^^^ b.toBitVec.toNat = a.toNat ^^^ b.toNat := rfl
  have := Nat.xor_lt_two_pow (n := 8) a.toNat_lt b.toNat_lt
  rw [h]
  simp [IntKind.wrap, IntKind.bits, IntKind.signed]
  omega
theorem bytes_get {w : World} {q : Option Addr} {l : List UInt8} (h : BytesAt w q (ba l)) {i : Int} (h0 : 0 ≤ i) (h1 : i < l.length) {K : Addr → Int → Prop} (hK : ∀ a, q = some a → K a (l[i.toNat]'(by omega)).toNat) :
    Ptr q fun a => ∃ x, w.cell? (a.add (i.toNat * 1)) = some (.int .u8 x) ∧ K a x := by
  obtain ⟨a, e, hc⟩ := h i.toNat (by rw [ba_size]; omega)
  subst e
  rw [ptr_some]
  refine ⟨_, by rw [Nat.mul_one]; exact hc, ?_⟩
  rw [ba_get]
  exact hK a rfl
/-! ### The sum -/
theorem u32_lt (X : W32) : 0 ≤ (X.toNat : Int) ∧ (X.toNat : Int) < 4294967296 := by have := X.isLt; omega
theorem lsb_even (X : W32) : X.getLsbD 0 = decide (X.toNat % 2 = 1) := by
  rw [BitVec.getLsbD, Nat.testBit_zero]
theorem c103 (X : W32) (w : World) : Rets Tryd.prog 103 #[.int .u32 X.toNat] w fun v w' => v = .int .u32 (turn X).toNat ∧ w' = w := by
  refine ent [_] Tryd.func103 ((vcTryd103 _ w _).mpr ?_)
  unfold VCTryd103
  have e1 : shrI .u32 (X.toNat : Int) 1 = ((X >>> 1).toNat : Int) := shr32 X (k := 1) (by omega)
  have e2 : andI .u32 (X.toNat : Int) 1 = ((X &&& 1#32).toNat : Int) := and32 X 1#32
  have e3 : ((X &&& 1#32).toNat : Int) = ((X.toNat % 2 : Nat) : Int) := by
    rw [BitVec.toNat_and]
    show ((X.toNat &&& 1 : Nat) : Int) = _
    rw [Nat.and_one_is_mod]
  rw [e1, e2, e3]
  unfold turn
  rw [lsb_even]
  refine bif_eq (fun h => ⟨by omega, _, rfl, ?_, rfl⟩) (fun h => ⟨by omega, _, rfl, ?_, rfl⟩)
  · rw [if_pos (decide_eq_true (by omega))]
    have : xorI .u32 ((X >>> 1).toNat : Int) 3988292384 = (((X >>> 1) ^^^ poly).toNat : Int) := xor32 (X >>> 1) poly
    rw [this]
  · rw [if_neg (by simp; omega)]
theorem c185 (X : W32) (k : Nat) (hk : k ≤ 1000) (w : World) : Rets Tryd.prog 185 #[.int .u32 X.toNat, .int .i64 k] w fun v w' => v = .int .u32 (turns k X).toNat ∧ w' = w := by
  refine ent [_, _] Tryd.func185 ((vcTryd185 _ _ w _).mpr ?_)
  unfold VCTryd185
  refine ⟨fun i n w' => ∃ j : Nat, i = j ∧ j ≤ k ∧ n = (turns j X).toNat ∧ w' = w, fun i _ _ => (k - i).toNat, ⟨0, rfl, by omega, rfl, rfl⟩, ?_⟩
  rintro i n w1 ⟨j, rfl, hj, rfl, rfl⟩
  refine bif_dec (fun hlt => ⟨by decide, by decide, ?_⟩) (fun hge => ⟨_, rfl, ?_, rfl⟩)
  · have hT := u32_lt (turns j X)
    have e1 : ((turns j X).toNat : Int).tdiv 2 = ((turns j X >>> 1).toNat : Int) := by
      rw [Int.tdiv_eq_ediv_of_nonneg hT.1, BitVec.toNat_ushiftRight, Nat.shiftRight_eq_div_pow]
      omega
    have e2 : ((turns j X).toNat : Int).tmod 2 = (((turns j X).toNat % 2 : Nat) : Int) := by
      rw [Int.tmod_eq_emod_of_nonneg hT.1]; omega
    have hS := u32_lt (turns j X >>> 1)
    rw [e1, e2]
    refine wr32 hS ?_
    have e3 : turns (j + 1) X = if (turns j X).getLsbD 0 then (turns j X >>> 1) ^^^ poly else turns j X >>> 1 := turns_succ j X
    rw [lsb_even] at e3
    refine bif_eq (fun h => wr64 (by omega) ⟨⟨j + 1, by omega, by omega, ?_, by first | rfl | trivial⟩, by first | omega | (dsimp only; omega)⟩) (fun h => wr64 (by omega) ⟨⟨j + 1, by omega, by omega, ?_, by first | rfl | trivial⟩, by first | omega | (dsimp only; omega)⟩)
    · rw [e3, if_pos (decide_eq_true (by omega))]
      exact xor32 (turns j X >>> 1) poly
    · rw [e3, if_neg (by simp; omega)]
  · have : j = k := by omega
    rw [this]
/-- The table in memory. -/
def Tab (w : World) (a : Addr) : Prop := ∀ i : Nat, i < 256 → w.cell? (a.add i) = some (.int .u32 (tab i).toNat)
theorem Tab.kp0 {w w' : World} {a : Addr} (h : Tab w a) (hk : Kp none_ w w') : Tab w' a := fun i hi => hk.cell0 (h i hi)
theorem Tab.far {w w' : World} {a : Addr} {E : Nat} (h : Tab w a) (hk : Kp (fun i => E ≤ i) w w') (hE : w.heap.size ≤ E) : Tab w' a := fun i hi => cell_far (h i hi) hk hE
theorem goL_take {X : W32} {l : List UInt8} {j : Nat} (h : j < l.length) : goL X (l.take (j + 1)) = goB (goL X (l.take j)) l[j] := by
  rw [List.take_succ_eq_append_getElem h, goL_append]
  rfl
theorem c158 {w : World} {t : Addr} (ht : Tab w t) (X : W32) {q : Option Addr} {c : Nat} {l : List UInt8} (hb : BytesAt w q (ba l)) (hl : l.length ≤ 1000000000) : Rets Tryd.prog 158 #[.pointer (some t), .int .u32 X.toNat, .slice q l.length c] w fun v w' => v = .int .u32 (goL X l).toNat ∧ w' = w := by
  refine ent [_, _, _] Tryd.func158 ((vcTryd158 _ _ _ _ _ w _).mpr ?_)
  unfold VCTryd158
  show cond false _ _
  simp only [cond_false, ptr_some]
  refine ⟨fun i n w' => ∃ j : Nat, i = j ∧ j ≤ l.length ∧ n = (goL X (l.take j)).toNat ∧ w' = w, fun i _ _ => (l.length - i).toNat, ⟨0, rfl, by omega, rfl, rfl⟩, ?_⟩
  rintro i n w1 ⟨j, rfl, hj, rfl, rfl⟩
  refine bif_dec (fun hlt => ⟨⟨by omega, hlt⟩, bytes_get hb (by omega) hlt fun a ha => ?_⟩) (fun hge => ⟨_, rfl, ?_, by first | rfl | trivial⟩)
  · have hj' : j < l.length := by omega
    generalize hY : goL X (l.take j) = Y
    have hYl := Y.isLt
    simp only [Int.toNat_natCast]
    refine wrm8 ?_
    have e1 : ((Y.toNat : Int) % 256) = ((UInt8.ofNat (Y.toNat % 256)).toNat : Int) := by rw [UInt8.toNat_ofNat']; omega
    rw [e1, xor8]
    have e2 : (UInt8.ofNat (Y.toNat % 256)).toNat = Y.toNat % 256 := by rw [UInt8.toNat_ofNat']; omega
    rw [e2]
    have hx : (Y.toNat % 256) ^^^ (l[j]).toNat < 256 := Nat.xor_lt_two_pow (n := 8) (by omega) (l[j]).toNat_lt
    refine ⟨⟨by omega, by omega⟩, _, by rw [Nat.mul_one, Int.toNat_natCast]; exact ht _ hx, by omega, wr64 (by omega) ⟨⟨j + 1, by omega, by omega, ?_, by first | rfl | trivial⟩, by first | omega | (dsimp only; omega)⟩⟩
    have e3 : shrI .u32 (Y.toNat : Int) 8 = ((Y >>> 8).toNat : Int) := shr32 Y (k := 8) (by omega)
    rw [goL_take hj', hY, goB_tab, e3, xor32]
  · have : j = l.length := by omega
    rw [this, List.take_length]
theorem c106 {w : World} {t : Addr} (ht : Tab w t) {q : Option Addr} {c : Nat} {l : List UInt8} (hb : BytesAt w q (ba l)) (hl : l.length ≤ 1000000000) : Rets Tryd.prog 106 #[.pointer (some t), .slice q l.length c] w fun v w' => v = .int .u32 (sumL l).toNat ∧ w' = w := by
  refine ent [_, _] Tryd.func106 ((vcTryd106 _ _ _ _ w _).mpr ?_)
  unfold VCTryd106
  show cond false _ _
  simp only [cond_false]
  refine (c158 ht (BitVec.allOnes 32) hb hl).mono ?_
  rintro v wx ⟨rfl, e⟩
  obtain rfl := e.symm
  refine ⟨_, rfl, (Kp.refl none_ _).keeps0, _, rfl, ?_, rfl⟩
  have : xorI .u32 ((goL (BitVec.allOnes 32) l).toNat : Int) 4294967295 = ((goL (BitVec.allOnes 32) l ^^^ BitVec.allOnes 32).toNat : Int) := xor32 _ (BitVec.allOnes 32)
  rw [this]
  rfl
theorem c161 {w : World} (X : W32) {q : Option Addr} {c : Nat} {l : List UInt8} (hb : BytesAt w q (ba l)) (hl : l.length ≤ 1000000000) : Rets Tryd.prog 161 #[.int .u32 X.toNat, .slice q l.length c] w fun v w' => v = .int .u32 (goL X l).toNat ∧ w' = w := by
  refine ent [_, _] Tryd.func161 ((vcTryd161 _ _ _ _ w _).mpr ?_)
  unfold VCTryd161
  refine ⟨fun i n w' => ∃ j : Nat, i = j ∧ j ≤ l.length ∧ n = (goL X (l.take j)).toNat ∧ w' = w, fun i _ _ => (l.length - i).toNat, ⟨0, rfl, by omega, rfl, rfl⟩, ?_⟩
  rintro i n w1 ⟨j, rfl, hj, rfl, rfl⟩
  refine bif_dec (fun hlt => ⟨⟨by omega, hlt⟩, bytes_get hb (by omega) hlt fun a ha => ?_⟩) (fun hge => ⟨_, rfl, ?_, rfl⟩)
  · have hj' : j < l.length := by omega
    simp only [Int.toNat_natCast]
    have hc := (l[j]).toNat_lt
    refine wr32 (by omega) ?_
    have e1 : ((l[j]).toNat : Int) = ((by32 l[j]).toNat : Int) := by
      unfold by32
      rw [BitVec.toNat_ofNat]
      omega
    rw [e1, xor32]
    refine (c185 _ 8 (by omega) w1).mono ?_
    rintro v wx ⟨rfl, e⟩
    obtain rfl := e.symm
    refine ⟨_, rfl, (Kp.refl none_ _).keeps0, wr64 (by omega) ⟨⟨j + 1, by omega, by omega, ?_, by first | rfl | trivial⟩, by first | omega | (dsimp only; omega)⟩⟩
    rw [goL_take hj']
    rfl
  · have : j = l.length := by omega
    rw [this, List.take_length]
theorem c115 {w : World} {q : Option Addr} {c : Nat} {l : List UInt8} (hb : BytesAt w q (ba l)) (hl : l.length ≤ 1000000000) : Rets Tryd.prog 115 #[.slice q l.length c] w fun v w' => v = .int .u32 (sumL l).toNat ∧ w' = w := by
  refine ent [_] Tryd.func115 ((vcTryd115 _ _ _ w _).mpr ?_)
  unfold VCTryd115
  refine (c161 (BitVec.allOnes 32) hb hl).mono ?_
  rintro v wx ⟨rfl, e⟩
  obtain rfl := e.symm
  have hX := u32_lt (goL (BitVec.allOnes 32) l)
  refine ⟨_, rfl, (Kp.refl none_ _).keeps0, wr32 (by omega) ⟨_, rfl, ?_, rfl⟩⟩
  unfold sumL
  generalize goL (BitVec.allOnes 32) l = X
  have : X ^^^ BitVec.allOnes 32 = ~~~X := by rw [BitVec.xor_comm]; exact BitVec.allOnes_xor
  rw [this, BitVec.toNat_not]
  have := X.isLt
  congr 1
  omega
end Go.Proofs.YtbpknjldphckgaaDoor
