/- What the row needs, part 5. -/
import Derived.Test.YtlgkcbdpaffigaaGreatProg
import Derived.Test.YtlgkcbdpaffigaaGreatRows
import Derived.ChangeMaps5
import Derived.Test.YtlgkcbdpaffigaaGreatXqd
namespace Go.Proofs.YtlgkcbdpaffigaaGreat
open Go Go.SX Go.Proofs Go.Lib
set_option maxRecDepth 100000
set_option linter.unusedVariables false
set_option linter.unusedSimpArgs false
section
variable {w w' : World} {col col' : Col} {D : Nat} {s : St} {S : Nat → Prop}
/-- What one sector's writing asks, with its bytes from F to T. -/
def Seg58 (p0 : Option Addr) (p1 : Int) (p2 : Option Addr) (c2 : Nat) (F T : Int) (I50 : Int → World → Prop) (I51 : Int → World → Nat) (i52 : Int) (w53 : World) : Prop :=
  SX.Ptr p0 fun (a61 : Addr) => ∃ (q62 : Option Addr), ∃ (n63 : Nat), ∃ (n64 : Nat), w53.cell? (a61.add (0 : Nat)) = some (Value.slice q62 n63 n64) ∧ ((0 : Int) ≤ i52 ∧ i52 < (↑n63 : Int)) ∧ SX.Ptr q62 fun (a65 : Addr) => ∃ (s66 : ByteArray), w53.cell? (a65.add (i52.toNat * (1 : Nat))) = some (Value.string s66) ∧ Wr IntKind.i64 ((512 : Int) * i52) fun (i67 : Int) => Wr IntKind.i64 (F - i67) fun (i68 : Int) => ((0 : Int) ≤ i68 ∧ i68 ≤ (↑s66.size : Int)) ∧ Wr IntKind.i64 (F - p1) fun (i69 : Int) => Wr IntKind.i64 (T - p1) fun (i70 : Int) => ((0 : Int) ≤ i70 ∧ i70 ≤ (↑c2 : Int)) ∧ ((0 : Int) ≤ i69 ∧ i69 ≤ (↑i70.toNat : Int)) ∧ ∃ (s71 : ByteArray), s71.size = i70.toNat - i69.toNat ∧ BytesAt w53.drew (cutA p2 c2 i69.toNat (1 : Nat)) s71 ∧ (s66.extract (0 : Nat) i68.toNat).size + s71.size ≤ (9223372036854775807 : Nat) ∧ Wr IntKind.i64 ((512 : Int) * i52) fun (i72 : Int) => Wr IntKind.i64 (T - i72) fun (i73 : Int) => ((0 : Int) ≤ i73 ∧ i73 ≤ (↑s66.size : Int)) ∧ (s66.extract (0 : Nat) i68.toNat ++ s71).size + (s66.extract i73.toNat s66.size).size ≤ (9223372036854775807 : Nat) ∧ SX.Ptr p0 fun (a74 : Addr) => ∃ (q75 : Option Addr), ∃ (n76 : Nat), ∃ (n77 : Nat), w53.drew.cell? (a74.add (0 : Nat)) = some (Value.slice q75 n76 n77) ∧ ((0 : Int) ≤ i52 ∧ i52 < (↑n76 : Int)) ∧ SX.Ptr q75 fun (a78 : Addr) => (∃ (v79 : Value), w53.drew.cell? ((a78.add (i52.toNat * (1 : Nat))).add (0 : Nat)) = some v79) ∧ w53.drew.frozen? ((a78.add (i52.toNat * (1 : Nat))).add (0 : Nat)) = false ∧ SX.Ptr p0 fun (a80 : Addr) => ∃ (q81 : Option Addr), ∃ (n82 : Nat), ∃ (n83 : Nat), (w53.drew.setCell ((a78.add (i52.toNat * (1 : Nat))).add (0 : Nat)) (Value.string (s66.extract (0 : Nat) i68.toNat ++ s71 ++ s66.extract i73.toNat s66.size))).cell? (a80.add (3 : Nat)) = some (Value.slice q81 n82 n83) ∧ Runs Tryz.prog (Builtin.append_ #[(69 : Nat), (69 : Nat)] (69 : Nat) #[Value.slice q81 n82 n83, Value.slice (some { block := (w53.drew.setCell ((a78.add (i52.toNat * (1 : Nat))).add (0 : Nat)) (Value.string (s66.extract (0 : Nat) i68.toNat ++ s71 ++ s66.extract i73.toNat s66.size))).heap.size, off := (0 : Nat) }) (1 : Nat) (1 : Nat)]) ((w53.drew.setCell ((a78.add (i52.toNat * (1 : Nat))).add (0 : Nat)) (Value.string (s66.extract (0 : Nat) i68.toNat ++ s71 ++ s66.extract i73.toNat s66.size))).alloc (Obj.cells #[Value.int IntKind.i64 i52, Value.string (s66.extract (0 : Nat) i68.toNat ++ s71 ++ s66.extract i73.toNat s66.size)] (118 : Nat))) fun (v84 : Value) (w85 : World) => ∃ (q86 : Option Addr), ∃ (n87 : Nat), ∃ (n88 : Nat), v84 = Value.slice q86 n87 n88 ∧ Keeps ((w53.drew.setCell ((a78.add (i52.toNat * (1 : Nat))).add (0 : Nat)) (Value.string (s66.extract (0 : Nat) i68.toNat ++ s71 ++ s66.extract i73.toNat s66.size))).alloc (Obj.cells #[Value.int IntKind.i64 i52, Value.string (s66.extract (0 : Nat) i68.toNat ++ s71 ++ s66.extract i73.toNat s66.size)] (118 : Nat))) w85 [] ∧ SX.Ptr p0 fun (a89 : Addr) => (∃ (v90 : Value), w85.cell? ((a89.add (3 : Nat)).add (0 : Nat)) = some v90) ∧ w85.frozen? ((a89.add (3 : Nat)).add (0 : Nat)) = false ∧ Wr IntKind.i64 (i52 + (1 : Int)) fun (i91 : Int) => I50 i91 (w85.setCell ((a89.add (3 : Nat)).add (0 : Nat)) (Value.slice q86 n87 n88)) ∧ I51 i91 (w85.setCell ((a89.add (3 : Nat)).add (0 : Nat)) (Value.slice q86 n87 n88)) < I51 i52 w53
def partF (f b : Int → Int) (at_ : Int) (n : Nat) (to : Int) : Int → Int := fun p => if at_ ≤ p ∧ p < at_ + n ∧ p < to then b (p - at_) else f p
/-- So many sectors were written. -/
def partSt (s g : St) (at_ : Int) (n : Nat) (b : Int → Int) (j : Nat) : St := { g with now := partF g.now b at_ n (512 * (loF at_ + j)), wait := s.wait ++ waits (loF at_) j (overF g.now b at_ n) }
theorem strOf_three {f g b : Int → Int} {i : Int} {n : Nat} {at_ : Int} {F T : Nat} {tx : ByteArray} (hF : F ≤ T) (hT : T ≤ 512)
    (h1 : ∀ p : Int, 512 * i ≤ p → p < 512 * i + F → f p = g p) (h3 : ∀ p : Int, 512 * i + T ≤ p → p < 512 * i + 512 → f p = g p)
    (htx : tx = SX.strOf g (512 * i + F) (T - F)) : (SX.strOf f (512 * i) 512).extract 0 F ++ tx ++ (SX.strOf f (512 * i) 512).extract T 512 = SX.strOf g (512 * i) 512 := by
  rw [strOf_cut _ _ _ _ _ (by omega) (by omega), strOf_cut _ _ _ _ _ (by omega) (by omega), htx]
  have e1 : SX.strOf f (512 * i + (0 : Nat)) (F - 0) = SX.strOf g (512 * i) F := by
    rw [Nat.sub_zero]
    exact strOf_eq fun j hj => by rw [h1 _ (by omega) (by omega)]; congr 1; omega
  have e3 : SX.strOf f (512 * i + (T : Nat)) (512 - T) = SX.strOf g (512 * i + T) (512 - T) := strOf_eq fun j hj => h3 _ (by omega) (by omega)
  rw [e1, e3, strOf_app]
  have : SX.strOf g (512 * i + (T : Int)) (512 - T) = SX.strOf g (512 * i + ((F + (T - F) : Nat) : Int)) (512 - T) := by congr 1; omega
  rw [this, strOf_app]
  congr 1
  omega
theorem seg58 {col1 : Col} {g : St} (h : RDsk w col1 D g) {q : Option Addr} {n cp : Nat} {b : Int → Int} (hb : Ints w .u8 q n b) (hby : ∀ i : Int, 0 ≤ i → i < n → isByte (b i)) (hcp : n ≤ cp) (at_ : Int) (h0 : 0 ≤ at_) (hn : n ≤ 2097152) (hat : at_ ≤ 2097152)
    (i : Nat) (hi : i < g.size) (F T : Int) (hF : at_ ≤ F ∧ 512 * (i : Int) ≤ F) (hT : T ≤ at_ + n ∧ T ≤ 512 * (i : Int) + 512) (hFT : F ≤ T) {G : Int → Int}
    (h1 : ∀ p : Int, 512 * i ≤ p → p < F → g.now p = G p) (h3 : ∀ p : Int, T ≤ p → p < 512 * i + 512 → g.now p = G p) (h2 : ∀ p : Int, F ≤ p → p < T → G p = b (p - at_))
    (hl : g.wait.length ≤ 100000) {f : Int → Int} (hf : ∀ p : Int, 512 * i ≤ p → p < 512 * i + 512 → f p = G p) (hfb : ∀ p, isByte (f p))
    {I50 : Int → World → Prop} {I51 : Int → World → Nat}
    (hK : ∀ w3 col', Kp (ownC col1) w w3 → Grow col1 col' w w3 → RDsk w3 col' D { setNow g i (secAt f i) with wait := g.wait ++ [(i, f)] } → I50 ((i : Int) + 1) w3 ∧ I51 ((i : Int) + 1) w3 < I51 i w) :
    Seg58 (some ⟨D, 0, none⟩) at_ q cp F T I50 I51 i w := by
  obtain ⟨F, rfl⟩ := Int.eq_ofNat_of_zero_le (show 0 ≤ F by omega)
  obtain ⟨T, rfl⟩ := Int.eq_ofNat_of_zero_le (show 0 ≤ T by omega)
  unfold Seg58
  have hs := h.ok.size
  have hd := h.dlt
  obtain ⟨g0, c0, x1, x2, x3, x4, x5⟩ := h.drew.now.setAt (by rw [h.colD]; omega) hi
  have x1' : w.cell? ⟨D, 0, none⟩ = some (.slice (some ⟨g0, 0, none⟩) g.size c0) := x1
  obtain ⟨g0', c0', y1, y2, y3⟩ := h.now.get (by omega)
  rw [x1'] at y1
  cases y1
  simp only [ptr_some, ad_add, Nat.zero_add, Nat.add_zero, Nat.mul_one, Int.toNat_natCast]
  refine ⟨_, _, _, x1', by omega, ?_⟩
  simp only [ptr_some, ad_add, Nat.zero_add, Nat.add_zero, Nat.mul_one, Int.toNat_natCast]
  refine ⟨_, y3 i _ (strL_get _ hi), wr64 (by omega) (wr64 (by omega) ?_)⟩
  obtain ⟨F', hF'⟩ : ∃ F' : Nat, F = 512 * i + F' := ⟨F - 512 * i, by omega⟩
  obtain ⟨T', hT'⟩ : ∃ T' : Nat, T = 512 * i + T' := ⟨T - 512 * i, by omega⟩
  have e1 : (F : Int) - 512 * (i : Int) = (F' : Nat) := by omega
  have e2 : (T : Int) - 512 * (i : Int) = (T' : Nat) := by omega
  obtain ⟨l, hl0⟩ : ∃ l : Nat, (F : Int) - at_ = l := ⟨((F : Int) - at_).toNat, by omega⟩
  obtain ⟨r, hr0⟩ : ∃ r : Nat, (T : Int) - at_ = r := ⟨((T : Int) - at_).toNat, by omega⟩
  simp only [strOf_size, e1, e2, hl0, hr0, Int.toNat_natCast]
  refine ⟨by omega, wr64 (by omega) (wr64 (by omega) ⟨by omega, by omega, SX.strOf b l (r - l), by rw [strOf_size]; omega, ?_, ?_⟩)⟩
  · exact Ints.str hb (fun i h0 h1 => hby i h0 h1) cp l (r - l) (by omega) hcp
  have ht : (SX.strOf g.now (512 * (i : Int)) 512).extract 0 F' ++ SX.strOf b l (r - l) ++ (SX.strOf g.now (512 * (i : Int)) 512).extract T' 512 = SX.strOf (secAt f i) 0 512 := by
    rw [secAt_str]
    have : SX.strOf f (512 * (i : Int)) 512 = SX.strOf G (512 * (i : Int)) 512 := strOf_eq fun j hj => hf _ (by omega) (by omega)
    rw [this]
    refine strOf_three (n := n) (at_ := at_) (b := b) (by omega) (by omega) (fun p a c => h1 p a (by omega)) (fun p a c => h3 p (by omega) c) ?_
    rw [show r - l = T' - F' by omega]
    exact strOf_eq fun j hj => by rw [h2 _ (by omega) (by omega)]; congr 1; omega
  refine ⟨by rw [strOf_cut _ _ _ _ _ (by omega) (by omega), strOf_size, strOf_size]; omega, wr64 (by omega) (wr64 (by omega) ?_)⟩
  simp only [e2, Int.toNat_natCast]
  rw [ht]
  refine ⟨by omega, ?_, _, _, _, x1, by omega, ?_⟩
  · rw [strOf_cut _ _ _ _ _ (by omega) (by omega), strOf_cut _ _ _ _ _ (by omega) (by omega)]
    simp only [ByteArray.size_append, strOf_size]
    omega
  simp only [ptr_some, ad_add, Nat.zero_add, Nat.add_zero, Nat.mul_one, Int.toNat_natCast]
  refine ⟨x3, x4, ?_⟩
  obtain ⟨r1, k1⟩ := x5 (.string (SX.strOf (secAt f i) 0 512))
  have h4 := h.nowPut hi (f := secAt f i) (fun p => hfb _) k1.of_drew r1 rfl
  have k1' := k1.of_drew
  generalize w.drew.setCell ⟨g0, i, none⟩ (.string (SX.strOf (secAt f i) 0 512)) = w2 at *
  obtain ⟨q3, c3, z1, z2, z3⟩ := h4.wait.push (t := 69) (ty := 69) #[.int .i64 i, .string (SX.strOf (secAt f i) 0 512)] h4.lt h4.frz h4.colD (by omega) Tryz.underlying69 elem149 (by omega) rfl (by simp [Value.oneCell']) (by show g.wait.length + 1 ≤ _; omega)
  refine ⟨_, _, _, z1, ?_⟩
  obtain ⟨v, w3, zr, q4, c4, rfl, u1, u2, u3, u4, u5, u6, col', u7, u8, u9⟩ := z3
  refine ⟨_, _, zr, q4, _, c4, rfl, u1, u2, u3, wr64 (by omega) (hK _ col' ?_ ?_ ?_)⟩
  · refine (k1'.mono (T := ownC col1) fun j _ hj => ?_).trans (u4.mono fun j _ hj => ?_)
    · have hj : col1 j = 2 := hj
      show col1 j ≠ 0
      omega
    · show col1 j ≠ 0
      rcases hj with hj | rfl
      · omega
      · rw [h.colD]; omega
  · exact ⟨fun j hj => u7 j (by have := k1'.size; omega), u8⟩
  · have ne : ∀ k : Nat, k ≠ 5 → k ≠ 1 → ∀ j, j < w2.heap.size → (col1 j = 5 ∨ j = D) → col1 j ≠ k := fun k hk hk1 j _ hj => by
      rcases hj with hj | hj
      · omega
      · rw [hj, h.colD]; exact fun h => hk1 h.symm
    obtain ⟨xs, v1, v2⟩ := h4.safe
    have hd2 : D < w2.heap.size := h4.dlt
    have e3 : waitL g.wait ++ [.int .i64 i, .string (SX.strOf (secAt f i) 0 512)] = waitL (g.wait ++ [(i, f)]) := by
      rw [← waitL_snoc, secAt_str]
      rfl
    have e4 : (g.wait ++ [(i, f)]).length = g.wait.length + 1 := by simp
    refine ⟨(u7 D hd2).trans h.colD, u8, u6, h4.now.kpc u4 (ne 2 (by omega) (by omega)) u7 (fun v => u5 0 v (by omega)), ⟨xs, v1.kpc u4 (ne 3 (by omega) (by omega)) u7 (fun v => u5 1 v (by omega)), v2⟩, h4.has.kpc u4 (ne 4 (by omega) (by omega)) u7 (fun v => u5 2 v (by omega)), ?_, ⟨h.ok.size, h4.ok.now, h.ok.safe, fun e he => ?_⟩⟩
    · show Row0 _ col' D 3 5 118 2 (g.wait ++ [(i, f)]).length (waitL (g.wait ++ [(i, f)]))
      rw [e4, ← e3]
      exact u9
    · have he : e ∈ g.wait ++ [(i, f)] := he
      simp only [List.mem_append, List.mem_singleton] at he
      rcases he with he | rfl
      · exact h.ok.wait e he
      · exact ⟨hi, hfb⟩
end
end Go.Proofs.YtlgkcbdpaffigaaGreat

namespace Go.Proofs.YtlgkcbdpaffigaaGreat
open Go Go.SX Go.Proofs Go.Lib
set_option maxRecDepth 100000
set_option linter.unusedVariables false
set_option linter.unusedSimpArgs false
section
variable {w w' : World} {col col' : Col} {D : Nat} {s : St} {S : Nat → Prop}
/-- How many sectors are lacking. -/
def lack (D M : Nat) (w : World) : Nat := match w.cell? ⟨D, 0, none⟩ with | some (.slice _ n _) => M - n | _ => 0
theorem RDsk.lack (h : RDsk w col D s) (M : Nat) : YtlgkcbdpaffigaaGreat.lack D M w = M - s.size := by
  obtain ⟨q, c, l⟩ := h.now.len
  unfold YtlgkcbdpaffigaaGreat.lack
  rw [l]
theorem part0 (s g : St) (at_ : Int) (n : Nat) (b : Int → Int) (hg : g.wait = s.wait) (h0 : 0 ≤ at_) : partSt s g at_ n b 0 = g := by
  obtain ⟨x1, x2, x3, x4, x5⟩ := g
  simp only [partSt, waits, St.mk.injEq, true_and, and_true]
  refine ⟨funext fun p => ?_, by rw [← hg]; simp⟩
  unfold partF loF
  rw [if_neg (by omega)]
theorem partEnd (s g : St) (at_ : Int) (n : Nat) (b : Int → Int) (h0 : 0 ≤ at_) (hn : n ≠ 0) (hg : g = growSt s (hiF at_ n)) : partSt s g at_ n b (hiF at_ n - loF at_) = writeSt s at_ n b := by
  subst hg
  unfold partSt writeSt
  simp only [St.mk.injEq, true_and, and_true]
  refine funext fun p => ?_
  unfold partF overF
  have : at_ + n ≤ 512 * ((loF at_ : Int) + ((hiF at_ n - loF at_ : Nat) : Int)) := by unfold hiF loF; omega
  by_cases c : at_ ≤ p ∧ p < at_ + n
  · rw [if_pos c, if_pos (by omega)]
  · rw [if_neg c, if_neg (by omega)]
theorem partNext (s g : St) (at_ : Int) (n : Nat) (b : Int → Int) (j : Nat) (i : Nat) (hi : i = loF at_ + j) :
    ({ setNow (partSt s g at_ n b j) i (secAt (overF g.now b at_ n) i) with wait := (partSt s g at_ n b j).wait ++ [(i, overF g.now b at_ n)] } : St) = partSt s g at_ n b (j + 1) := by
  subst hi
  unfold partSt setNow secAt
  simp only [St.mk.injEq, true_and, and_true]
  refine ⟨funext fun p => ?_, ?_⟩
  · unfold partF overF
    by_cases c : 512 * ((loF at_ + j : Nat) : Int) ≤ p ∧ p < 512 * ((loF at_ + j : Nat) : Int) + 512
    · rw [if_pos c]
      have e : 512 * ((loF at_ + j : Nat) : Int) + (p - 512 * ((loF at_ + j : Nat) : Int)) = p := by omega
      rw [e]
      by_cases c2 : at_ ≤ p ∧ p < at_ + n
      · rw [if_pos (by omega), if_pos (by omega)]
      · rw [if_neg (by omega), if_neg (by omega)]
    · rw [if_neg c]
      by_cases c2 : at_ ≤ p ∧ p < at_ + n ∧ p < 512 * ((loF at_ : Int) + j)
      · rw [if_pos (by omega), if_pos (by omega)]
      · rw [if_neg (by omega), if_neg (by omega)]
  · rw [waits_succ, List.append_assoc]
theorem c58 (h : RDsk w col D s) {q : Option Addr} {n cp : Nat} {b : Int → Int} (hb : Ints w .u8 q n b) (hby : ∀ i : Int, 0 ≤ i → i < n → isByte (b i)) (hcp : n ≤ cp) (hq : 0 < n → ∀ a, q = some a → col a.block = 0) (hl : s.wait.length ≤ 90000) (at_ : Int) :
    Rets Tryz.prog 49 #[.pointer (some ⟨D, 0, none⟩), .int .i64 at_, .slice q n cp] w fun v w' =>
      v = .int .i64 (if rightF at_ n = true then 0 else 1) ∧ Kp (ownC col) w w' ∧ ∃ col', Grow col col' w w' ∧ RDsk w' col' D (if rightF at_ n = true ∧ n ≠ 0 then writeSt s at_ n b else s) := by
  refine ent [_, _, _] Tryz.func49 ((vcTryz49 _ _ _ _ _ w _).mpr ?_)
  unfold VCTryz49
  have hs := h.ok.size
  refine (c95 w at_ n).mono ?_
  rintro v wx ⟨rfl, e⟩
  obtain rfl := e.symm
  refine ⟨_, rfl, (Kp.refl none_ _).keeps0, bif_not (fun hr => ?_) (fun hr => ?_)⟩
  · rw [hr]
    exact ⟨_, rfl, rfl, Kp.refl _ _, col, Grow.refl h.lt (Nat.le_refl _), h⟩
  refine bif_eq (fun h0 => ?_) (fun h0 => ?_)
  · have hn0 : n = 0 := by omega
    rw [hr, if_pos rfl, if_neg (fun hh => hh.2 hn0)]
    exact ⟨_, rfl, rfl, Kp.refl _ _, col, Grow.refl h.lt (Nat.le_refl _), h⟩
  have hn0 : n ≠ 0 := by omega
  have hrr := hr
  unfold rightF at hrr
  have hr' := of_decide_eq_true hrr
  rw [hr, if_pos rfl, if_pos ⟨rfl, hn0⟩]
  have hneed : needF s at_ n = ((max s.size (hiF at_ n) : Nat) : Int) := by unfold needF hiF; rw [if_neg h0]; omega
  have hhi : hiF at_ n ≤ 4096 := by unfold hiF; omega
  refine (c96 h at_ n hr).mono ?_
  rintro v wx ⟨rfl, e⟩
  obtain rfl := e.symm
  rw [hneed]
  obtain ⟨M, hM⟩ : ∃ M, M = max s.size (hiF at_ n) := ⟨_, rfl⟩
  rw [← hM]
  refine ⟨_, rfl, (Kp.refl none_ _).keeps0, fun w' => ∃ m, s.size ≤ m ∧ m ≤ M ∧ Kp (ownC col) w w' ∧ ∃ col', Grow col col' w w' ∧ RDsk w' col' D (growSt s m), lack D M, ⟨s.size, by omega, by omega, Kp.refl _ _, col, Grow.refl h.lt (Nat.le_refl _), by unfold growSt; rw [if_neg (by omega)]; exact h⟩, ?_⟩
  rintro w1 ⟨m, hm1, hm2, k1, col1, gr1, h1⟩
  have hsz1 : (growSt s m).size = m := by rw [growSt_size]; omega
  obtain ⟨q0, c0, l0⟩ := h1.now.len
  rw [hsz1] at l0
  simp only [ptr_some, ad_add, Nat.zero_add, Nat.add_zero]
  refine ⟨_, _, _, l0, bif_dec (fun hlt => ?_) (fun hge => ?_)⟩
  · -- one more sector
    refine ⟨_, _, _, l0, (c97 w1.drew).mono ?_⟩
    rintro v w2 ⟨rfl, k2⟩
    have h2 := h1.drew.kp0 k2
    have l2 : w2.cell? ⟨D, 0, none⟩ = some (.slice q0 m c0) := k2.cell0 (show w1.drew.cell? ⟨D, 0, none⟩ = _ from l0)
    have hd2 := h2.dlt
    have push1 := h2.now.push (t := 67) (ty := 67) #[.string (SX.strOf (fun _ => 0) 0 512)] h2.lt h2.frz h2.colD (by omega) Tryz.underlying67 elem9 (by omega) rfl (by simp [Value.oneCell']) (by rw [hsz1]; omega)
    rw [hsz1] at push1
    obtain ⟨qa, ca, a1, a2, v, w3, ar, q3, c3, rfl, a3, a4, a5, a6, a7, a8, col3, a9, a10, a11⟩ := push1
    rw [l2] at a1
    cases a1
    refine ⟨_, rfl, k2.keeps0, l2, a2, _, w3, ar, _, _, _, rfl, a3, a4, a5, ?_⟩
    obtain ⟨xs, s1, s2⟩ := h2.safe
    have ne : ∀ (c : Col) (k' k : Nat), c D = 1 → k ≠ 1 → k' ≠ k → ∀ i, (c i = k' ∨ i = D) → c i ≠ k := fun c k' k hc hk hkk i hi => by
      rcases hi with hi | hi
      · omega
      · rw [hi, hc]; exact fun h => hk h.symm
    have s3 := s1.kpc (col' := col3) a6 (fun i _ hi => ne col1 2 3 h2.colD (by omega) (by omega) i hi) a9 (fun v => a7 1 v (by omega))
    have b3 := h2.has.kpc (col' := col3) a6 (fun i _ hi => ne col1 2 4 h2.colD (by omega) (by omega) i hi) a9 (fun v => a7 2 v (by omega))
    have w3' := h2.wait.kpc (col' := col3) a6 (fun i _ hi => ne col1 2 5 h2.colD (by omega) (by omega) i hi) a9 (fun v => a7 3 v (by omega))
    have cD3 : col3 D = 1 := (a9 D hd2).trans h2.colD
    rw [hsz1] at s3 b3
    generalize w3.setCell ⟨D, 0, none⟩ (.slice q3 (m + 1) c3) = W3 at *
    have hd3 : D < W3.heap.size := Nat.lt_of_lt_of_le hd2 a6.size
    obtain ⟨qb, cb, b1, b2, v, w4, br, q4, c4, rfl, b4, b5, b6, b7, b8, b9, col4, b10, b11, b12⟩ := s3.push (t := 67) (ty := 67) #[.string ⟨#[]⟩] a10 a8 cD3 (by omega) Tryz.underlying67 elem9 (by omega) rfl (by simp [Value.oneCell']) (by omega)
    refine ⟨_, _, _, b1, _, w4, br, _, _, _, rfl, b4, b5, b6, ?_⟩
    have n4 := a11.kpc (col' := col4) b7 (fun i _ hi => ne col3 3 2 cD3 (by omega) (by omega) i hi) b10 (fun v => b8 0 v (by omega))
    have b4' := b3.kpc (col' := col4) b7 (fun i _ hi => ne col3 3 4 cD3 (by omega) (by omega) i hi) b10 (fun v => b8 2 v (by omega))
    have w4' := w3'.kpc (col' := col4) b7 (fun i _ hi => ne col3 3 5 cD3 (by omega) (by omega) i hi) b10 (fun v => b8 3 v (by omega))
    have cD4 : col4 D = 1 := (b10 D hd3).trans cD3
    generalize w4.setCell ⟨D, 1, none⟩ (.slice q4 (m + 1) c4) = W4 at *
    have hd4 : D < W4.heap.size := Nat.lt_of_lt_of_le hd3 b7.size
    obtain ⟨qc, cc, d1, d2, v, w5, dr, q5, c5, rfl, d4, d5, d6, d7, d8, d9, col5, d10, d11, d12⟩ := b4'.push (t := 31) (ty := 31) #[.bool false] b11 b9 cD4 (by omega) Tryz.underlying31 elem4 (by omega) rfl (by simp [Value.oneCell']) (by omega)
    refine ⟨_, _, _, d1, _, w5, dr, _, _, _, rfl, d4, d5, d6, ?_⟩
    have n5 := n4.kpc (col' := col5) d7 (fun i _ hi => ne col4 4 2 cD4 (by omega) (by omega) i hi) d10 (fun v => d8 0 v (by omega))
    have s5 := b12.kpc (col' := col5) d7 (fun i _ hi => ne col4 4 3 cD4 (by omega) (by omega) i hi) d10 (fun v => d8 1 v (by omega))
    have w5' := w4'.kpc (col' := col5) d7 (fun i _ hi => ne col4 4 5 cD4 (by omega) (by omega) i hi) d10 (fun v => d8 3 v (by omega))
    generalize w5.setCell ⟨D, 2, none⟩ (.slice q5 (m + 1) c5) = W5 at *
    have hnext : growSt s (m + 1) = { growSt s m with size := m + 1, now := fun p => if p < 512 * (m : Int) then (growSt s m).now p else 0, has := fun i => if i < m then (growSt s m).has i else false } := by
      rw [← grow_grow s m hm1, grow_pos _ _ (by rw [hsz1]; omega), hsz1]
    have ok1 := growSt_ok h.ok (m := m + 1) (by omega)
    have z1 := k1.size
    have z2 : w1.heap.size ≤ w2.heap.size := k2.size
    have z3 := a6.size
    have z4 := b7.size
    have cc3 : ∀ i, i < w.heap.size → col3 i = col i := fun i hi => (a9 i (by omega)).trans (gr1.1 i hi)
    have cc4 : ∀ i, i < w.heap.size → col4 i = col i := fun i hi => (b10 i (by omega)).trans (cc3 i hi)
    have cc5 : ∀ i, i < w.heap.size → col5 i = col i := fun i hi => (d10 i (by omega)).trans (cc4 i hi)
    have hdD : col D = 1 := h.colD
    have kA : Kp (ownC col) w W3 := (k1.drew.trans (k2.mono fun _ _ h => h.elim)).then a6 fun i hi hh => by
      show col i ≠ 0
      rcases hh with hh | hh
      · rw [gr1.1 i hi] at hh; omega
      · rw [hh, hdD]; omega
    have kB : Kp (ownC col) w W4 := kA.then b7 fun i hi hh => by
      show col i ≠ 0
      rcases hh with hh | hh
      · rw [cc3 i hi] at hh; omega
      · rw [hh, hdD]; omega
    have kl : Kp (ownC col) w W5 := kB.then d7 fun i hi hh => by
      show col i ≠ 0
      rcases hh with hh | hh
      · rw [cc4 i hi] at hh; omega
      · rw [hh, hdD]; omega
    have hfin : RDsk W5 col5 D (growSt s (m + 1)) := by
      have hxl := s1.xlen
      rw [hsz1] at hxl
      rw [hnext] at ok1 ⊢
      refine ⟨(d10 D hd4).trans cD4, d11, d9, ?_, ⟨_, s5, fun i hi => ?_⟩, ?_, w5', ok1⟩
      · rw [strL_snoc _ (fun p => if p < 512 * (m : Int) then (growSt s m).now p else 0) m _ (fun p hp => if_pos hp) (strOf_eq fun j hj => by rw [if_neg (by omega)])] at n5
        exact n5
      · have hi : i < m + 1 := hi
        show _ ∧ ((if i < m then (growSt s m).has i else false) = true → _)
        by_cases c : i < m
        · rw [if_pos c]
          have e : (xs ++ [Value.string ⟨#[]⟩])[i]? = xs[i]? := List.getElem?_append_left (by omega)
          rw [e]
          exact s2 i (by rw [hsz1]; exact c)
        · rw [if_neg c]
          have e : (xs ++ [Value.string ⟨#[]⟩])[i]? = some (.string ⟨#[]⟩) := by rw [List.getElem?_append_right (by omega), show i - xs.length = 0 by omega]; rfl
          exact ⟨⟨_, e⟩, fun h => by cases h⟩
      · rw [boolL_snoc _ (fun i => if i < m then (growSt s m).has i else false) m _ (fun i hi => if_pos hi) (if_neg (by omega))] at d12
        exact d12
    refine ⟨⟨m + 1, by omega, by omega, kl, col5, ?_, hfin⟩, ?_⟩
    · exact ⟨cc5, d11⟩
    · rw [hfin.lack, h1.lack, hsz1, growSt_size]
      omega
  -- the sectors
  have hmM : m = M := by omega
  subst hmM
  have hgM : growSt s m = growSt s (hiF at_ n) := by rw [hM, growSt_max]
  generalize hg : growSt s m = g at *
  have hgw : g.wait = s.wait := by rw [← hg, growSt_wait]
  have e512 : at_.tdiv 512 = (loF at_ : Nat) := by unfold loF; rw [Int.tdiv_eq_ediv_of_nonneg (by omega)]; omega
  rw [e512]
  have hlo : loF at_ < hiF at_ n := by unfold loF hiF; omega
  have hlo1 : 512 * (loF at_ : Int) ≤ at_ ∧ at_ < 512 * (loF at_ : Int) + 512 := by unfold loF; omega
  have hhi1 : (at_ + n : Int) ≤ 512 * (hiF at_ n : Int) ∧ 512 * (hiF at_ n : Int) < at_ + n + 512 := by unfold hiF; omega
  refine ⟨by omega, wr64 (by omega) ⟨fun i w' => ∃ j : Nat, i = (loF at_ : Nat) + (j : Int) ∧ j ≤ hiF at_ n - loF at_ ∧ Kp (ownC col) w w' ∧ ∃ col', Grow col col' w w' ∧ RDsk w' col' D (partSt s g at_ n b j), fun i _ => (hiF at_ n - i).toNat, ⟨0, by omega, by omega, k1, col1, gr1, by rw [part0 s g at_ n b hgw (by omega)]; exact h1⟩, ?_⟩⟩
  rintro i w7 ⟨j, rfl, hj, k7, col7, gr7, h7⟩
  have done : j = hiF at_ n - loF at_ → ∃ v, Ending.returned (Value.int .i64 0) = .returned v ∧ v = Value.int .i64 0 ∧ Kp (ownC col) w w7 ∧ ∃ col', Grow col col' w w7 ∧ RDsk w7 col' D (writeSt s at_ n b) := by
    rintro rfl
    exact ⟨_, rfl, rfl, k7, col7, gr7, by rw [← partEnd s g at_ n b (by omega) hn0 hgM]; exact h7⟩
  refine bif_dec (fun hlt => wr64 (by omega) (wr64 (by omega) (bif_dec (fun hlt2 => ?_) (fun hge2 => done (by omega))))) (fun hge2 => done (by omega))
  obtain ⟨i, hi⟩ : ∃ i : Nat, i = loF at_ + j := ⟨_, rfl⟩
  have hie : ((loF at_ : Nat) : Int) + (j : Int) = (i : Nat) := by omega
  rw [hie] at hlt hlt2 ⊢
  have his : i < (partSt s g at_ n b j).size := by
    show i < g.size
    omega
  have hsn : ∀ x : Nat, partF g.now b at_ n (512 * ((loF at_ : Int) + x)) = (partSt s g at_ n b x).now := fun x => rfl
  have hb7 : Ints w7 .u8 q n b := hb.kp k7 fun h0 a ha hh => hh (hq h0 a ha)
  have hov : ∀ p, isByte (overF g.now b at_ n p) := fun p => by
    unfold overF
    split
    · exact hby _ (by omega) (by omega)
    · rw [← hg]; exact (growSt_ok h.ok (by omega)).now p
  have hpt : ∀ (to p : Int), isByte (partF g.now b at_ n to p) := fun to p => by
    unfold partF
    split
    · exact hby _ (by omega) (by omega)
    · rw [← hg]; exact (growSt_ok h.ok (by omega)).now p
  -- one sector
  have hwl : (partSt s g at_ n b j).wait.length ≤ 100000 := by
    show (s.wait ++ waits (loF at_) j (overF g.now b at_ n)).length ≤ _
    rw [List.length_append]
    have : (waits (loF at_) j (overF g.now b at_ n)).length = j := by simp [waits]
    omega
  have seg := fun (F T : Int) (hF : at_ ≤ F ∧ 512 * (i : Int) ≤ F) (hT : T ≤ at_ + n ∧ T ≤ 512 * (i : Int) + 512) (hFT : F ≤ T) (hF2 : F = at_ ∨ F = 512 * (i : Int)) (hT2 : T = at_ + n ∨ T = 512 * (i : Int) + 512) => seg58 h7 hb7 hby hcp at_ (by omega) (by omega) (by omega) i his F T hF hT hFT (G := overF g.now b at_ n)
    (fun p a c => by
      show partF _ _ _ _ _ _ = _
      unfold partF overF
      rw [if_neg (by omega), if_neg (by omega)])
    (fun p a c => by
      show partF _ _ _ _ _ _ = _
      unfold partF overF
      rw [if_neg (by omega), if_neg (by omega)])
    (fun p a c => by
      unfold overF
      rw [if_pos (by omega)])
    hwl (f := overF g.now b at_ n) (fun p _ _ => rfl) hov
    (I50 := fun i w' => ∃ j : Nat, i = (loF at_ : Nat) + (j : Int) ∧ j ≤ hiF at_ n - loF at_ ∧ Kp (ownC col) w w' ∧ ∃ col', Grow col col' w w' ∧ RDsk w' col' D (partSt s g at_ n b j)) (I51 := fun i _ => (hiF at_ n - i).toNat)
    (fun w8 col8 k8 gr8 h8 => ⟨⟨j + 1, by omega, by omega, k7.then k8 (fun x hx hh => by
      show col x ≠ 0
      rw [← gr7.1 x hx]
      exact hh), col8, gr7.trans gr8 k7.size, by rw [partNext s g at_ n b j i hi] at h8; exact h8⟩, by first | omega | (dsimp only; omega)⟩)
  refine wr64 (by omega) (wr64 (by omega) (wr64 (by omega) (bif_dec (fun c1 => wr64 (by omega) (bif_dec (fun c2 => wr64 (by omega) ?_) (fun c2 => ?_))) (fun c1 => wr64 (by omega) (bif_dec (fun c2 => wr64 (by omega) ?_) (fun c2 => ?_))))))
  · exact seg at_ (at_ + n) (by omega) (by omega) (by omega) (by omega) (by omega)
  · exact seg at_ (512 * i + 512) (by omega) (by omega) (by omega) (by omega) (by omega)
  · exact seg (512 * i) (at_ + n) (by omega) (by omega) (by omega) (by omega) (by omega)
  · exact seg (512 * i) (512 * i + 512) (by omega) (by omega) (by omega) (by omega) (by omega)
end
end Go.Proofs.YtlgkcbdpaffigaaGreat

namespace Go.Proofs.YtlgkcbdpaffigaaGreat
open Go Go.SX Go.Proofs Go.Lib
set_option maxRecDepth 100000
set_option linter.unusedVariables false
set_option linter.unusedSimpArgs false
/-! ### Calls, in memory -/
structure OpD where
  k : Int
  x : Int
  qb : Option Addr
  nb : Nat
  cb : Nat
  b : Int → Int
  qk : Option Addr
  nk : Nat
  ck : Nat
  kb : Nat → Bool
  fill : Int
def OpD.args (o : OpD) : Value := .agg #[.int .i64 o.k, .int .i64 o.x, .slice o.qb o.nb o.cb, .slice o.qk o.nk o.ck, .int .u8 o.fill]
section
variable {w w' : World} {col col' : Col} {D : Nat} {s : St}
/-! ### Disks, new -/
def emptySt : St := ⟨0, fun _ => 0, fun _ => false, fun _ => 0, []⟩
theorem empty_ok : emptySt.Ok := ⟨by decide, fun _ => (by decide : 0 ≤ (0 : Int) ∧ (0 : Int) < 256), fun _ => (by decide : 0 ≤ (0 : Int) ∧ (0 : Int) < 256), fun e he => by simp [emptySt] at he⟩
def newCol (D : Nat) : Col := fun i => if i = D then 1 else 0
theorem newCol_D (D : Nat) : newCol D D = 1 := if_pos rfl
theorem newCol_ne {D i : Nat} (h : newCol D i ≠ 0) : i = D := by
  unfold newCol at h
  by_cases e : i = D
  · exact e
  · rw [if_neg e] at h; exact absurd rfl h
theorem Dsk.new (hl : D < w.heap.size) (hf : ∀ o, w.frozen? ⟨D, o, none⟩ = false) (h0 : w.cell? ⟨D, 0, none⟩ = some (.slice none 0 0)) (h1 : w.cell? ⟨D, 1, none⟩ = some (.slice none 0 0)) (h2 : w.cell? ⟨D, 2, none⟩ = some (.slice none 0 0)) : Dsk w (newCol D) D emptySt :=
  ⟨newCol_D D, fun i hi => by rw [newCol_ne hi]; exact hl, hf, ⟨none, 0, h0, OwnRow.nil _ _ _ _⟩, ⟨none, 0, [], h1, OwnRow.nil _ _ _ _, fun i hi => by cases hi⟩, ⟨none, 0, [], h2, OwnRow.nil _ _ _ _, fun k e he => by simp [emptySt] at he⟩, empty_ok⟩
theorem RDsk.new (hl : D < w.heap.size) (hf : ∀ o, w.frozen? ⟨D, o, none⟩ = false) (h0 : w.cell? ⟨D, 0, none⟩ = some (.slice none 0 0)) (h1 : w.cell? ⟨D, 1, none⟩ = some (.slice none 0 0)) (h2 : w.cell? ⟨D, 2, none⟩ = some (.slice none 0 0)) (h3 : w.cell? ⟨D, 3, none⟩ = some (.slice none 0 0)) : RDsk w (newCol D) D emptySt :=
  ⟨newCol_D D, fun i hi => by rw [newCol_ne hi]; exact hl, hf, ⟨none, 0, h0, OwnRow.nil _ _ _ _⟩, ⟨[], ⟨none, 0, h1, OwnRow.nil _ _ _ _⟩, fun i hi => by cases hi⟩, ⟨none, 0, h2, OwnRow.nil _ _ _ _⟩, ⟨none, 0, h3, OwnRow.nil _ _ _ _⟩, empty_ok⟩
theorem write_wait (s : St) (at_ : Int) (n : Nat) (b : Int → Int) : (writeSt s at_ n b).wait.length = s.wait.length + (hiF at_ n - loF at_) := by
  unfold writeSt
  show (s.wait ++ waits _ _ _).length = _
  rw [List.length_append]
  simp [waits]
theorem write_size (s : St) (at_ : Int) (n : Nat) (b : Int → Int) : (writeSt s at_ n b).size = max s.size (hiF at_ n) := growSt_size s _
end
end Go.Proofs.YtlgkcbdpaffigaaGreat

namespace Go.Proofs.YtlgkcbdpaffigaaGreat
open Go Go.SX Go.Proofs
set_option maxRecDepth 100000
set_option linter.unusedVariables false
set_option linter.unusedSimpArgs false
structure Pk (P : World → Col → Nat → St → Prop) : Prop where
  kp : ∀ {S : Nat → Prop} {w w' : World} {col : Col} {D : Nat} {s : St}, P w col D s → Kp S w w' → (∀ i, S i → col i = 0) → P w' col D s
  lt : ∀ {w : World} {col : Col} {D : Nat} {s : St}, P w col D s → ∀ i, col i ≠ 0 → i < w.heap.size
theorem pkD : Pk Dsk := ⟨fun h k hs => h.kp k hs, fun h => h.lt⟩
theorem pkR : Pk RDsk := ⟨fun h k hs => h.kp k hs, fun h => h.lt⟩
def Dks (P : World → Col → Nat → St → Prop) (w : World) (Q : Nat → Prop) (Ds : List Nat) (ds : List St) : Prop :=
  ∃ cols : Nat → Col, Ds.length = ds.length ∧ (∀ i, i < ds.length → P w (cols i) (Ds.getD i 0) (ds.getD i emptySt)) ∧ (∀ i x, i < ds.length → cols i x ≠ 0 → Q x) ∧ ∀ i j x, i < ds.length → j < ds.length → i ≠ j → cols i x ≠ 0 → cols j x = 0
section
variable {P : World → Col → Nat → St → Prop} {w w' : World} {Q : Nat → Prop} {Ds : List Nat} {ds : List St}
theorem Dks.len (h : Dks P w Q Ds ds) : Ds.length = ds.length := by
  obtain ⟨cols, h1, h2, h3, h4⟩ := h
  exact h1
theorem Dks.kp (pk : Pk P) {S Q' : Nat → Prop} (h : Dks P w Q Ds ds) (k : Kp S w w') (hs : ∀ x, x < w.heap.size → Q x → ¬ S x ∧ Q' x) : Dks P w' Q' Ds ds := by
  obtain ⟨cols, h1, h2, h3, h4⟩ := h
  refine ⟨cols, h1, fun i hi => pk.kp (h2 i hi) k fun x hx => ?_, fun i x hi hx => (hs x (pk.lt (h2 i hi) x hx) (h3 i x hi hx)).2, h4⟩
  by_cases e : cols i x = 0
  · exact e
  · exact absurd hx (hs x (pk.lt (h2 i hi) x e) (h3 i x hi e)).1
theorem Dks.kp0 (pk : Pk P) (h : Dks P w Q Ds ds) (k : Kp none_ w w') : Dks P w' Q Ds ds := h.kp pk k fun x _ hx => ⟨id, hx⟩
theorem Dks.at (pk : Pk P) (h : Dks P w Q Ds ds) {i : Nat} (hi : i < ds.length) : ∃ col, P w col (Ds.getD i 0) (ds.getD i emptySt) ∧ (∀ x, col x ≠ 0 → Q x) ∧
    ∀ {w' : World} {col' : Col} {s' : St}, Kp (ownC col) w w' → Grow col col' w w' → P w' col' (Ds.getD i 0) s' → Dks P w' (fun x => Q x ∨ w.heap.size ≤ x) Ds (ds.set i s') := by
  obtain ⟨cols, h1, h2, h3, h4⟩ := h
  refine ⟨cols i, h2 i hi, fun x => h3 i x hi, ?_⟩
  intro w' col' s' k g p
  have gd : ∀ x, col' x ≠ 0 → x < w.heap.size → cols i x ≠ 0 := fun x hx hl => by rw [← g.1 x hl]; exact hx
  refine ⟨fun j => if j = i then col' else cols j, by simpa using h1, fun j hj => ?_, fun j x hj hx => ?_, fun a c x ha hc hne hx => ?_⟩
  · rw [List.length_set] at hj
    by_cases e : j = i
    · subst e
      simp only [if_pos rfl]
      rw [List.getD_eq_getElem?_getD (l := ds.set j s'), List.getElem?_set_self hj]
      exact p
    · simp only [if_neg e]
      rw [List.getD_eq_getElem?_getD (l := ds.set i s'), List.getElem?_set_ne (fun h => e h.symm), ← List.getD_eq_getElem?_getD]
      exact pk.kp (h2 j hj) k fun x hx => h4 i j x hi hj (fun h => e h.symm) hx
  · rw [List.length_set] at hj
    by_cases e : j = i
    · subst e
      simp only [if_pos rfl] at hx
      by_cases hl : x < w.heap.size
      · exact .inl (h3 j x hj (gd x hx hl))
      · exact .inr (by omega)
    · simp only [if_neg e] at hx
      exact .inl (h3 j x hj hx)
  · rw [List.length_set] at ha hc
    by_cases e : a = i
    · subst e
      simp only [if_pos rfl] at hx
      show (if c = a then col' else cols c) x = 0
      rw [if_neg (fun h : c = a => hne h.symm)]
      by_cases hl : x < w.heap.size
      · exact h4 a c x ha hc hne (gd x hx hl)
      · by_cases e2 : cols c x = 0
        · exact e2
        · exact absurd (pk.lt (h2 c hc) x e2) hl
    · simp only [if_neg e] at hx
      by_cases e2 : c = i
      · subst e2
        show (if c = c then col' else cols c) x = 0
        rw [if_pos rfl]
        have hl := pk.lt (h2 a ha) x hx
        rw [g.1 x hl]
        exact h4 a c x ha hc hne hx
      · simp only [if_neg e2]
        exact h4 a c x ha hc hne hx
theorem Dks.nil (P : World → Col → Nat → St → Prop) (w : World) (Q : Nat → Prop) : Dks P w Q [] [] := ⟨fun _ _ => 0, rfl, fun i hi => by simp at hi, fun i x hi => by simp at hi, fun i j x hi => by simp at hi⟩
theorem Dks.snoc (pk : Pk P) {d : Nat} (h : Dks P w Q Ds ds) (hn : P w (newCol d) d emptySt) (hd : ¬ Q d) : Dks P w (fun x => Q x ∨ x = d) (Ds ++ [d]) (ds ++ [emptySt]) := by
  obtain ⟨cols, h1, h2, h3, h4⟩ := h
  refine ⟨fun j => if j = ds.length then newCol d else cols j, by simp [h1], fun j hj => ?_, fun j x hj hx => ?_, fun a c x ha hc hne hx => ?_⟩
  · by_cases e : j = ds.length
    · subst e
      simp only [if_pos rfl]
      rw [List.getD_eq_getElem?_getD, List.getD_eq_getElem?_getD, List.getElem?_append_right (by omega), List.getElem?_append_right (by omega), h1]
      simpa using hn
    · have hj : j < ds.length := by simp at hj; omega
      simp only [if_neg e]
      rw [List.getD_eq_getElem?_getD, List.getD_eq_getElem?_getD, List.getElem?_append_left (by omega), List.getElem?_append_left (by omega), ← List.getD_eq_getElem?_getD, ← List.getD_eq_getElem?_getD]
      exact h2 j hj
  · by_cases e : j = ds.length
    · subst e
      simp only [if_pos rfl] at hx
      exact .inr (newCol_ne hx)
    · have hj : j < ds.length := by simp at hj; omega
      simp only [if_neg e] at hx
      exact .inl (h3 j x hj hx)
  · by_cases e : a = ds.length
    · subst e
      simp only [if_pos rfl] at hx
      have hc : c < ds.length := by simp at hc; omega
      show (if c = ds.length then newCol d else cols c) x = 0
      rw [if_neg (fun h : c = ds.length => hne h.symm)]
      by_cases e2 : cols c x = 0
      · exact e2
      · have := h3 c x hc e2
        rw [newCol_ne hx] at this
        exact absurd this hd
    · have ha : a < ds.length := by simp at ha; omega
      simp only [if_neg e] at hx
      by_cases e2 : c = ds.length
      · subst e2
        show (if ds.length = ds.length then newCol d else cols ds.length) x = 0
        rw [if_pos rfl]
        by_cases e3 : newCol d x = 0
        · exact e3
        · have := h3 a x ha hx
          rw [newCol_ne e3] at this
          exact absurd this hd
      · have hc : c < ds.length := by simp at hc; omega
        simp only [if_neg e2]
        exact h4 a c x ha hc hne hx
end
end Go.Proofs.YtlgkcbdpaffigaaGreat

namespace Go.Proofs.YtlgkcbdpaffigaaGreat
open Go Go.SX Go.Proofs
set_option maxRecDepth 100000
set_option linter.unusedVariables false
set_option linter.unusedSimpArgs false
variable {w : World} {O : Nat → Prop} {b : Nat} {S : List Ent} {ws : List Chg} {cap k r : Int} {rl : List Int}
theorem c29r {Ds : List Nat} (h : FSM w O b Ds S ws cap k r rl) (hk : 0 ≤ k ∧ k ≤ 1000000) (hr : 0 ≤ r ∧ r ≤ 1000000) (hl : rl.length ≤ 1000000) (hn : k + 1 ∈ rl) (i a : Int) (q : Option Addr) (n c : Nat) : Rets Tryz.prog 16 #[ptA b 0, .int .i64 i, .int .i64 a, .slice q n c] w fun v w' => v = .int .i64 10 ∧ FSM w' O b Ds S ws cap (k + 1) (r + 1) rl ∧ Kp (one_ b) w w' := by
  refine ent [_, _, _, _] Tryz.func16 ((vcTryz16 _ _ _ _ _ _ w _).mpr ?_)
  unfold VCTryz16
  refine (c76 h hk hr hl).mono ?_
  rintro v w1 ⟨rfl, h1, k1⟩
  have e1 : refE rl k = 10 := by unfold refE; rw [if_pos hn]
  have e2 : refN rl k r = r + 1 := by unfold refN; rw [if_pos hn]
  rw [e1]
  rw [e2] at h1
  exact ⟨_, rfl, k1.keeps0, bif_ne (fun _ => ⟨_, rfl, rfl, h1, k1⟩) (fun hh => by cases hh)⟩
/-- The document's example. -/
theorem c23 (w : World) : Rets Tryz.prog 6 #[] w fun v w' => v = .bool true ∧ Kp none_ w w' := by
  refine ent [] Tryz.func6 ((vcTryz6 w _).mpr ?_)
  unfold VCTryz6
  refine (c24 9 w).mono ?_
  rintro v w1 ⟨rfl, h1, k1⟩
  have z1 := k1.size
  refine ⟨_, rfl, k1.keeps0, ?_⟩
  have ka : Kp none_ w1 (w1.alloc (.cells #[.int .i64 2] 3)) := (Kp.refl none_ _).alloc1 _
  have za : (w1.alloc (.cells #[.int .i64 2] 3)).heap.size = w1.heap.size + 1 := alloc_size _ _
  have Ba : Big (w1.alloc (.cells #[.int .i64 2] 3)) w1.heap.size 3 [.int .i64 2] := Big.new _ _ 3
  generalize w1.alloc (.cells #[.int .i64 2] 3) = wa at *
  have ra : RowsAt wa 1 intC (some ⟨w1.heap.size, 0, none⟩) [2] := fun i hi => ⟨_, rfl, fun j u hu => by
    have hi0 : i = 0 := by simpa using hi
    subst hi0
    rw [ad_add, ad_add, Ba.cell]
    match j, hu with
    | 0, hu => exact hu
    | j + 1, hu => simp [intC] at hu⟩
  have h1a := (h1.kp (O' := fun i => w.heap.size ≤ i ∧ i < w1.heap.size) (Kp.refl none_ _) fun i hl hi => ⟨id, hi, hl⟩).kp0 ka
  refine (c27 h1a (fun i hi => by have := hi.2; omega) ra (by simp) (.inr ⟨_, _, rfl⟩)).mono ?_
  rintro v w2 ⟨rfl, h2, k2⟩
  have z2 := k2.size
  refine ⟨rfl, k2.keeps0, ?_⟩
  have h2 := h2.kp (O' := fun i => w.heap.size ≤ i ∧ i < w2.heap.size) (Kp.refl none_ _) fun i hl hi => ⟨id, by rcases hi with hi | hi; exact ⟨hi.1, hl⟩; exact ⟨by omega, hl⟩⟩
  have en : newE [2] 0 [] (lastE [] []) [97] = 0 := by decide
  refine (c28 h2 (fun i hi => hi.2) (by omega) (by omega) (by simp) (by simp [lastE, Asc]) (by simp) [97]).mono ?_
  rintro v w3 ⟨rfl, k3, f3, _⟩
  have z3 := k3.size
  obtain ⟨d, d1, d2, h3, _⟩ := f3 en
  rw [en, if_pos rfl]
  refine ⟨_, _, rfl, k3.keeps0, ?_⟩
  have kb : Kp none_ w3 (w3.alloc (.cells #[.int .u8 1] 5)) := (Kp.refl none_ _).alloc1 _
  have h3b := h3.kp0 kb
  have en2 : refN [2] 0 0 = 0 := by decide
  rw [en2] at h3b
  generalize w3.alloc (.cells #[.int .u8 1] 5) = wb at *
  have zb := kb.size
  refine (c29r h3b (by omega) (by omega) (by simp) (by decide) _ 0 _ 1 1).mono ?_
  rintro v w4 ⟨rfl, h4, k4⟩
  refine ⟨_, rfl, k4.keeps0, (c51 h4).mono ?_⟩
  rintro v w5 ⟨rfl, rfl⟩
  refine ⟨_, _, rfl, Kp.keeps0 (Kp.drew1 (S := none_)), bif_eq (fun _ => bif_eq (fun _ => bif_eq (fun _ => ⟨_, rfl, rfl, ?_⟩) (fun hh => absurd rfl hh)) (fun hh => absurd rfl hh)) (fun hh => absurd rfl hh)⟩
  have K : Kp (fun i => w.heap.size ≤ i) w w4 := ((((k1.wide.trans ka.wide).trans (k2.mono fun i _ hi => hi.1)).trans (k3.mono fun i _ hi => hi.1)).trans kb.wide).trans (k4.mono fun i _ hi => by have hi : i = w.heap.size := hi; omega)
  exact Kp.drew (K.mono fun i hi hh => by omega)
end Go.Proofs.YtlgkcbdpaffigaaGreat

namespace Go.Proofs.YtlgkcbdpaffigaaGreat
open Go Go.SX Go.Proofs
set_option maxRecDepth 100000
set_option linter.unusedVariables false
set_option linter.unusedSimpArgs false
structure Fst where
  ds : List St
  S : List Ent
  ws : List Chg
  cap : Int
  k : Int
  r : Int
  rl : List Int
structure Fok (f : Fst) : Prop where
  wf : WfE f.S
  ok : okCs f.S f.ws
  wsl : f.ws.length ≤ 100000
  dsl : f.ds.length ≤ 1000
  k : 0 ≤ f.k ∧ f.k ≤ 100000
  r : 0 ≤ f.r ∧ f.r ≤ 100000
  rll : f.rl.length ≤ 100000
  cap : 0 ≤ f.cap ∧ f.cap ≤ 65536
def FSD (w : World) (O : Nat → Prop) (b : Nat) (f : Fst) : Prop :=
  ∃ (Ds : List Nat) (Of : Nat → Prop), FSM w Of b Ds f.S f.ws f.cap f.k f.r f.rl ∧ Dks Dsk w (fun x => O x ∧ ¬ Of x) Ds f.ds ∧ ∀ x, Of x → O x
def lnk (f : Fst) (i : Int) : Bool := made f.ws i || (idIn (lastE f.S f.ws) i || idIn f.S i)
def usedN (f : Fst) : Nat → Int
  | 0 => 0
  | n + 1 => usedN f n + (if lnk f n = true then ((f.ds.getD n emptySt).size : Int) else 0)
variable {w w' : World} {O O' : Nat → Prop} {b : Nat} {f : Fst}
theorem FSD.kp {S' : Nat → Prop} (h : FSD w O b f) (k : Kp S' w w') (hs : ∀ x, x < w.heap.size → O x → ¬ S' x ∧ O' x) : FSD w' O' b f := by
  obtain ⟨Ds, Of, h1, h2, h3⟩ := h
  refine ⟨Ds, fun x => Of x ∧ x < w.heap.size, h1.kp k fun x hl hx => ⟨(hs x hl (h3 x hx)).1, hx, hl⟩, h2.kp pkD k fun x hl hx => ⟨(hs x hl hx.1).1, (hs x hl hx.1).2, fun hh => hx.2 hh.1⟩, fun x hx => (hs x hx.2 (h3 x hx.1)).2⟩
theorem FSD.kp0 (h : FSD w O b f) (k : Kp none_ w w') : FSD w' O b f := h.kp k fun x _ hx => ⟨id, hx⟩
theorem FSD.lt (h : FSD w O b f) : b < w.heap.size ∧ O b := by
  obtain ⟨Ds, Of, h1, h2, h3⟩ := h
  exact ⟨h1.lt.1, h3 _ h1.lt.2⟩
theorem Fok.last (o : Fok f) : WfE (lastE f.S f.ws) := wf_last o.wf o.ok
theorem getD_get {α : Type} (l : List α) (d : α) {i : Nat} (hi : i < l.length) : l[i]? = some (l.getD i d) := by
  rw [List.getD_eq_getElem?_getD, List.getElem?_eq_getElem hi]; rfl
/-- What is used. -/
theorem c55 (h : FSD w O b f) (o : Fok f) : Rets Tryz.prog 11 #[ptA b 0] w fun v w' => v = .int .i64 (usedN f f.ds.length) ∧ (0 ≤ usedN f f.ds.length ∧ usedN f f.ds.length ≤ 4096 * f.ds.length) ∧ Kp none_ w w' := by
  refine ent [_] Tryz.func11 ((vcTryz11 _ w _).mpr ?_)
  unfold VCTryz11
  obtain ⟨Ds, Of, h1, h2, h3⟩ := h
  have hlen := h2.len
  have hdl := o.dsl
  refine bif_b (fun hh => by cases hh) (fun _ => ?_)
  obtain ⟨q, c, e0, r0⟩ := h1.disks
  simp only [ptr_some, ad3, Nat.zero_add, Nat.add_zero]
  refine ⟨_, _, _, e0, fun i n w' => ∃ j : Nat, i = j ∧ j ≤ f.ds.length ∧ n = usedN f j ∧ (0 ≤ n ∧ n ≤ 4096 * j) ∧ Kp none_ w w', fun i _ _ => (f.ds.length - i).toNat, ⟨0, rfl, by omega, rfl, by omega, Kp.refl _ _⟩, ?_⟩
  rintro i n w1 ⟨j, rfl, hj, rfl, hn, k1⟩
  refine bif_dec (fun hi => ?_) (fun hi => ?_)
  · have hjl : j < f.ds.length := by omega
    have hjD : j < Ds.length := by omega
    refine ⟨⟨by omega, hi⟩, (r0.kp0 k1).get hjD fun a ea hc => ⟨_, (cell_add0 _ _).symm.trans (hc 0 _ rfl), ?_⟩⟩
    obtain ⟨Od, d⟩ := (h1.kp0 k1).dir
    refine (c46 d (by have := o.wsl; omega) o.last.asc (by have := o.last.len; omega) o.wf.asc (by have := o.wf.len; omega) j).mono ?_
    rintro v w2 ⟨rfl, k2⟩
    have K2 := k1.trans k2
    have hl : (made f.ws j || (idIn (lastE f.S f.ws) j || idIn f.S j)) = lnk f j := rfl
    refine ⟨_, rfl, k2.keeps0, bif_b (fun ht => ?_) (fun ht => ?_)⟩
    · obtain ⟨col, p, _, _⟩ := (h2.kp0 pkD K2).at pkD hjl
      have eD : Ds.getD j 0 = Ds[j] := by rw [List.getD_eq_getElem?_getD, List.getElem?_eq_getElem hjD]; rfl
      rw [eD] at p
      have sz := p.ok.size
      refine (c18 p).mono ?_
      rintro v w3 ⟨rfl, e⟩
      obtain rfl := e.symm
      have eu : usedN f (j + 1) = usedN f j + (f.ds.getD j emptySt).size := by
        show usedN f j + (if lnk f j = true then _ else _) = _
        rw [if_pos (by rw [← hl]; exact ht)]
      exact ⟨_, rfl, (Kp.refl none_ _).keeps0, wr64 (by omega) (wr64 (by omega) ⟨⟨j + 1, by omega, by omega, eu.symm, by omega, K2⟩, by first | omega | (dsimp only; omega)⟩)⟩
    · have eu : usedN f (j + 1) = usedN f j := by
        show usedN f j + (if lnk f j = true then _ else _) = _
        rw [if_neg (by rw [← hl, ht]; simp), Int.add_zero]
      exact wr64 (by omega) ⟨⟨j + 1, by omega, by omega, eu.symm, by omega, K2⟩, by first | omega | (dsimp only; omega)⟩
  · have ej : j = f.ds.length := by omega
    subst ej
    exact ⟨_, rfl, rfl, hn, k1⟩
end Go.Proofs.YtlgkcbdpaffigaaGreat

namespace Go.Proofs.YtlgkcbdpaffigaaGreat
open Go Go.SX Go.Proofs
set_option maxRecDepth 100000
set_option linter.unusedVariables false
set_option linter.unusedSimpArgs false
def cnt (f : Fst) : Fst := { f with k := f.k + 1, r := refN f.rl f.k f.r }
variable {w w' : World} {O O' : Nat → Prop} {b : Nat} {f : Fst}
theorem c76F (h : FSD w O b f) (o : Fok f) : Rets Tryz.prog 40 #[ptA b 0] w fun v w' => v = .int .i64 (refE f.rl f.k) ∧ FSD w' O b (cnt f) ∧ Kp (one_ b) w w' := by
  obtain ⟨Ds, Of, h1, h2, h3⟩ := h
  have o1 := o.k
  have o2 := o.r
  have o3 := o.rll
  refine (c76 h1 (by omega) (by omega) (by omega)).mono ?_
  rintro v w1 ⟨rfl, g, k⟩
  exact ⟨rfl, ⟨Ds, Of, g, h2.kp pkD k fun x _ hx => ⟨fun e => hx.2 (by have e : x = b := e; rw [e]; exact h1.lt.2), hx⟩, h3⟩, k⟩
theorem FSM.setR {Ds : List Nat} {S : List Ent} {ws : List Chg} {cap k r : Int} {rl : List Int} (h : FSM w O b Ds S ws cap k r rl) (r' : Int) : w.cell? ⟨b, 6, none⟩ = some (.int .i64 r) ∧ (∃ v, w.cell? ⟨b, 6, none⟩ = some v) ∧ w.frozen? ⟨b, 6, none⟩ = false ∧ FSM (w.setCell ⟨b, 6, none⟩ (.int .i64 r')) O b Ds S ws cap k r' rl ∧ Kp (one_ b) w (w.setCell ⟨b, 6, none⟩ (.int .i64 r')) := by
  obtain ⟨dv, own, Od, rq, rc, h1, h2, h3, h4, h5, h6, h7, h8⟩ := h
  have kk : Kp (one_ b) w (w.setCell ⟨b, 6, none⟩ (.int .i64 r')) := kp_set _ _ _ _
  have nb : Nb b 4 4 w (w.setCell ⟨b, 6, none⟩ (.int .i64 r')) := Nb.set w (b := b) (o := 4) (i := 2) (by omega) _
  have cc : Cs (w.setCell ⟨b, 6, none⟩ (.int .i64 r')) b 4 [.int .i64 cap, .int .i64 k, .int .i64 r', .slice rq rl.length rc] := h3.set 2 _
  exact ⟨h3.get 2 rfl, (h3.slot 2 (by simp)).1, (h3.slot 2 (by simp)).2, ⟨dv, own, Od, rq, rc, h1.nb kk nb (.inl (by simp)), h2.nb kk nb (.inl (by omega)), cc, h4.kp kk (fun g n cap _ hg e => by have e : g = b := e; rw [e] at hg; exact (h7 b hg).2 h2.lt.2), h5.kp kk (fun h0 a e hh => (h6 h0 a e).2.1 hh), h6, h7, h8⟩, kk⟩
theorem FSM.cap' {Ds : List Nat} {S : List Ent} {ws : List Chg} {cap k r : Int} {rl : List Int} (h : FSM w O b Ds S ws cap k r rl) : w.cell? ⟨b, 4, none⟩ = some (.int .i64 cap) := by
  obtain ⟨dv, own, Od, rq, rc, h1, h2, h3, h4, h5, h6, h7, h8⟩ := h
  exact h3.get 0 rfl
/-- A disk of a file system has been changed. -/
theorem FSD.disk (h : FSD w O b f) {i : Nat} (hi : i < f.ds.length) : ∃ d col, Rets Tryz.prog 42 #[ptA b 0, .int .i64 i] w (fun v w' => w' = w ∧ v = .pointer (some ⟨d, 0, none⟩)) ∧ Dsk w col d (f.ds.getD i emptySt) ∧ (∀ x, col x ≠ 0 → O x) ∧
    ∀ {w' : World} {col' : Col} {s' : St}, Kp (ownC col) w w' → Grow col col' w w' → Dsk w' col' d s' → FSD w' (fun x => O x ∨ w.heap.size ≤ x) b { f with ds := f.ds.set i s' } := by
  obtain ⟨Ds, Of, h1, h2, h3⟩ := h
  have hlen := h2.len
  obtain ⟨col, p, q, put⟩ := h2.at pkD hi
  refine ⟨Ds.getD i 0, col, ?_, p, fun x hx => (q x hx).1, ?_⟩
  · refine (c77 h1 i).mono ?_
    rintro v w' ⟨rfl, rfl⟩
    refine ⟨rfl, ?_⟩
    rw [if_pos (by omega), Int.toNat_natCast, getD_get Ds 0 (by omega)]
    rfl
  · intro w' col' s' k g p'
    have z := k.size
    exact ⟨Ds, fun x => Of x ∧ x < w.heap.size, h1.kp k fun x hl hx => ⟨fun hh => (q x hh).2 hx, hx, hl⟩, (put k g p').kp pkD (Kp.refl none_ _) fun x hl hx => ⟨id, by rcases hx with hx | hx; exact ⟨.inl hx.1, fun hh => hx.2 hh.1⟩; exact ⟨.inr hx, fun hh => by have := hh.2; omega⟩⟩, fun x hx => .inl (h3 x hx.1)⟩
theorem FSD.none (h : FSD w O b f) {i : Int} (hi : i < 0 ∨ f.ds.length ≤ i) : Rets Tryz.prog 42 #[ptA b 0, .int .i64 i] w (fun v w' => w' = w ∧ v = .pointer none) := by
  obtain ⟨Ds, Of, h1, h2, h3⟩ := h
  have hlen := h2.len
  refine (c77 h1 i).mono ?_
  rintro v w' ⟨rfl, rfl⟩
  refine ⟨rfl, ?_⟩
  split
  · rw [List.getElem?_eq_none (by omega)]; rfl
  · rfl
theorem cnt_ok (o : Fok f) (hk : f.k < 100000) (hr : f.r < 100000) : Fok (cnt f) := ⟨o.wf, o.ok, o.wsl, o.dsl, by have := o.k; show 0 ≤ f.k + 1 ∧ f.k + 1 ≤ 100000; omega, by
  have := o.r
  show 0 ≤ refN f.rl f.k f.r ∧ refN f.rl f.k f.r ≤ _
  unfold refN
  split <;> omega, o.rll, o.cap⟩
/-- What a write answers and leaves. -/
def wrF (f : Fst) (i at_ : Int) (n : Nat) (bf : Int → Int) : Int × Fst :=
  if refE f.rl f.k ≠ 0 then (10, cnt f) else
  if i < 0 ∨ f.ds.length ≤ i ∨ rightF at_ n = false then (1, cnt f) else
  if needF (f.ds.getD i.toNat emptySt) at_ n > (f.ds.getD i.toNat emptySt).size ∧ needF (f.ds.getD i.toNat emptySt) at_ n - (f.ds.getD i.toNat emptySt).size > f.cap - usedN f f.ds.length then (9, { cnt f with r := (cnt f).r + 1 }) else
  (0, { cnt f with ds := f.ds.set i.toNat (if rightF at_ n = true ∧ n ≠ 0 then writeSt (f.ds.getD i.toNat emptySt) at_ n bf else f.ds.getD i.toNat emptySt) })
theorem usedN_cnt (f : Fst) : ∀ n, usedN (cnt f) n = usedN f n
  | 0 => rfl
  | n + 1 => by
    show usedN (cnt f) n + _ = usedN f n + _
    rw [usedN_cnt f n]
    rfl
theorem refE_or (rl : List Int) (k : Int) : refE rl k = 0 ∨ refE rl k = 10 := by
  unfold refE
  split
  · exact .inr rfl
  · exact .inl rfl
theorem c29 (h : FSD w O b f) (o : Fok f) (hk : f.k < 100000) (hr : f.r < 100000) (hO : ∀ x, O x → x < w.heap.size) {q : Option Addr} {n cp : Nat} {bf : Int → Int} (hb : Ints w .u8 q n bf) (hby : ∀ i : Int, 0 ≤ i → i < n → isByte (bf i)) (hq : 0 < n → ∀ a, q = some a → ¬ O a.block) (i at_ : Int) (hw : ∀ s ∈ f.ds, s.wait.length ≤ 90000) :
    Rets Tryz.prog 16 #[ptA b 0, .int .i64 i, .int .i64 at_, .slice q n cp] w fun v w' => v = .int .i64 (wrF f i at_ n bf).1 ∧ FSD w' (fun x => O x ∨ w.heap.size ≤ x) b (wrF f i at_ n bf).2 ∧ Kp O w w' := by
  refine ent [_, _, _, _] Tryz.func16 ((vcTryz16 _ _ _ _ _ _ w _).mpr ?_)
  unfold VCTryz16
  have lb := h.lt
  refine (c76F h o).mono ?_
  rintro v w1 ⟨rfl, h1, k1⟩
  have z1 := k1.size
  have K1 : Kp O w w1 := k1.mono fun x _ hx => by have hx : x = b := hx; rw [hx]; exact lb.2
  have o1 := cnt_ok o hk hr
  have up : ∀ {W : World} {g : Fst}, FSD W O b g → w.heap.size ≤ W.heap.size → FSD W (fun x => O x ∨ w.heap.size ≤ x) b g := fun hg _ => hg.kp (Kp.refl none_ _) fun x _ hx => ⟨id, .inl hx⟩
  rcases (refE_or f.rl f.k).symm with e0 | e0
  · have eW : wrF f i at_ n bf = (10, cnt f) := by unfold wrF; rw [if_pos (by rw [e0]; decide)]
    rw [eW, e0]
    exact ⟨_, rfl, k1.keeps0, bif_ne (fun _ => ⟨_, rfl, rfl, up h1 z1, K1⟩) (fun hh => by cases hh)⟩
  rw [e0]
  refine ⟨_, rfl, k1.keeps0, bif_ne (fun hh => absurd rfl hh) fun _ => ?_⟩
  by_cases hi : i < 0 ∨ f.ds.length ≤ i
  · have eW : wrF f i at_ n bf = (1, cnt f) := by unfold wrF; rw [if_neg (by rw [e0]; simp), if_pos (by rcases hi with hi | hi; exact .inl hi; exact .inr (.inl hi))]
    rw [eW]
    refine (h1.none hi).mono ?_
    rintro v w2 ⟨e, rfl⟩
    obtain rfl := e.symm
    refine ⟨_, rfl, (Kp.refl none_ _).keeps0, (c65n at_ n w1).mono ?_⟩
    rintro v w2 ⟨e, rfl⟩
    obtain rfl := e.symm
    exact ⟨_, _, rfl, (Kp.refl none_ _).keeps0, bif_not (fun _ => ⟨_, rfl, rfl, up h1 z1, K1⟩) (fun hh => by cases hh)⟩
  · obtain ⟨j, rfl⟩ : ∃ j : Nat, i = j := ⟨i.toNat, by omega⟩
    have hj : j < (cnt f).ds.length := by show j < f.ds.length; omega
    obtain ⟨d, col, e77, p, cO, put⟩ := h1.disk hj
    have p : Dsk w1 col d (f.ds.getD j emptySt) := p
    refine e77.mono ?_
    rintro v w2 ⟨e, rfl⟩
    obtain rfl := e.symm
    refine ⟨_, rfl, (Kp.refl none_ _).keeps0, (c65 p at_ n).mono ?_⟩
    rintro v w2 ⟨rfl, e⟩
    obtain rfl := e.symm
    refine ⟨_, _, rfl, (Kp.refl none_ _).keeps0, bif_not (fun hr0 => ?_) (fun hr1 => ?_)⟩
    · have eW : wrF f j at_ n bf = (1, cnt f) := by unfold wrF; rw [if_neg (by rw [e0]; simp), if_pos (.inr (.inr hr0))]
      rw [eW]
      exact ⟨_, rfl, rfl, up h1 z1, K1⟩
    · rw [if_pos hr1]
      have eW : wrF f j at_ n bf = if needF (f.ds.getD j emptySt) at_ n > (f.ds.getD j emptySt).size ∧ needF (f.ds.getD j emptySt) at_ n - (f.ds.getD j emptySt).size > f.cap - usedN f f.ds.length then (9, { cnt f with r := (cnt f).r + 1 }) else (0, { cnt f with ds := f.ds.set j (if rightF at_ n = true ∧ n ≠ 0 then writeSt (f.ds.getD j emptySt) at_ n bf else f.ds.getD j emptySt) }) := by
        unfold wrF
        rw [if_neg (by rw [e0]; simp), if_neg (by rw [hr1]; simp; omega), Int.toNat_natCast]
      have hmem : f.ds.getD j emptySt ∈ f.ds := by
        have := getD_get f.ds emptySt (i := j) hj
        exact List.mem_of_getElem? this
      have szo := p.ok.size
      have nO : needF (f.ds.getD j emptySt) at_ n ≤ 4200 ∧ 0 ≤ needF (f.ds.getD j emptySt) at_ n := by
        have hr2 := of_decide_eq_true hr1
        unfold needF
        split <;> omega
      have hrest : ∀ {W : World}, Kp none_ w1 W → (¬ (needF (f.ds.getD j emptySt) at_ n > (f.ds.getD j emptySt).size ∧ needF (f.ds.getD j emptySt) at_ n - (f.ds.getD j emptySt).size > f.cap - usedN f f.ds.length)) → Rets Tryz.prog 44 #[.pointer (some ⟨d, 0, none⟩), .int .i64 at_, .slice q n cp] W fun v w3 => ∃ i3 : Int, v = .int .i64 i3 ∧ Keeps W w3 [] ∧ ∃ v, Ending.returned (.int .i64 i3) = Ending.returned v ∧ v = .int .i64 (wrF f j at_ n bf).1 ∧ FSD w3 (fun x => O x ∨ w.heap.size ≤ x) b (wrF f j at_ n bf).2 ∧ Kp O w w3 := fun {W} kW hc => by
        rw [eW, if_neg hc]
        have zW := kW.size
        have hqW : 0 < n → ∀ a, q = some a → col a.block = 0 := fun h0 a e => by
          by_cases ec : col a.block = 0
          · exact ec
          · exact absurd (cO _ ec) (hq h0 a e)
        have hbW : Ints W .u8 q n bf := ((hb.kp k1 fun h0 a e hh => hq h0 a e (by have hh : a.block = b := hh; rw [hh]; exact lb.2)).kp kW fun _ _ _ => id)
        refine (c20 (p.kp0 kW) hbW hby hqW (hw _ hmem) at_).mono ?_
        rintro v w3 ⟨rfl, k3, col', g3, p3⟩
        have kk := kW.wide.trans k3
        have F3 := put kk ⟨fun i hi => g3.1 i (by omega), g3.2⟩ p3
        refine ⟨_, rfl, k3.keeps0, _, rfl, by rw [if_pos hr1], F3.kp (Kp.refl none_ _) fun x hl hx => ⟨id, by rcases hx with hx | hx; exact .inl hx; exact .inr (by omega)⟩, K1.then kk fun x hx hh => cO x hh⟩
      have k0 : Kp none_ w1 w1.drew := Kp.drew1
      refine (c18 p.drew).mono ?_
      rintro v w2 ⟨rfl, e⟩
      obtain rfl := e.symm
      refine ⟨_, rfl, (Kp.refl none_ _).keeps0, bif_dec (fun hg => ?_) (fun hg => hrest k0 fun hc => hg hc.1)⟩
      have hcell : ∀ {W : World}, Kp none_ w1 W → W.cell? ⟨b, 4, none⟩ = some (.int .i64 f.cap) := fun kW => by
        obtain ⟨Ds, Of, m1, m2, m3⟩ := h1.kp0 kW
        exact m1.cap'
      have oc := o.cap
      have odl := o.dsl
      simp only [ptr_some, ad3, Nat.zero_add, Nat.add_zero]
      refine ⟨_, hcell k0, (c18 p.drew).mono ?_⟩
      rintro v w2 ⟨rfl, e⟩
      obtain rfl := e.symm
      refine ⟨_, rfl, (Kp.refl none_ _).keeps0, hcell k0, wr64 (by omega) ((c55 (h1.kp0 k0) o1).mono ?_)⟩
      rintro v w3 ⟨rfl, hu, k3⟩
      have eu : usedN (cnt f) (cnt f).ds.length = usedN f f.ds.length := usedN_cnt f _
      rw [eu] at hu ⊢
      have hu : 0 ≤ usedN f f.ds.length ∧ usedN f f.ds.length ≤ 4096 * f.ds.length := hu
      have kW := k0.trans k3
      refine ⟨_, rfl, k3.keeps0, hcell kW, wr64 (by omega) (bif_dec (fun hs => ?_) (fun hs => hrest kW fun hc => hs hc.2))⟩
      obtain ⟨Ds, Of, m1, m2, m3⟩ := h1.kp0 kW
      have oc1 := o1.r
      obtain ⟨x1, x2, x3, x4, x5⟩ := m1.setR ((cnt f).r + 1)
      rw [eW, if_pos ⟨hg, hs⟩]
      refine ⟨_, x1, wr64 (by omega) ⟨x2, x3, _, rfl, rfl, up ⟨Ds, Of, x4, m2.kp pkD x5 fun x _ hx => ⟨fun e => hx.2 (by have e : x = b := e; rw [e]; exact m1.lt.2), hx⟩, m3⟩ ?_, ?_⟩⟩
      · rw [set_size]; have := kW.size; omega
      · exact (K1.trans kW.wide).trans (x5.mono fun x _ hx => by have hx : x = b := hx; rw [hx]; exact lb.2)
end Go.Proofs.YtlgkcbdpaffigaaGreat

namespace Go.Proofs.YtlgkcbdpaffigaaGreat
open Go Go.SX Go.Proofs
set_option maxRecDepth 100000
set_option linter.unusedVariables false
set_option linter.unusedSimpArgs false
variable {w w' : World} {O O' : Nat → Prop} {b : Nat} {f : Fst}
/-- The directory may go on. -/
theorem FSM.dirOp {Ds : List Nat} {S : List Ent} {ws : List Chg} {cap k r : Int} {rl : List Int} (h : FSM w O b Ds S ws cap k r rl) (hO : ∀ x, O x → x < w.heap.size) : ∃ Od, DR w Od b 1 S ws ∧ (∀ x, Od x → O x) ∧
    ∀ {w' : World} {S' : List Ent} {ws' : List Chg}, DR w' (fun i => Od i ∨ w.heap.size ≤ i) b 1 S' ws' → Kp Od w w' → Nb b 1 3 w w' → FSM w' (fun i => O i ∨ w.heap.size ≤ i) b Ds S' ws' cap k r rl := by
  obtain ⟨dv, own, Od, rq, rc, h1, h2, h3, h4, h5, h6, h7, h8⟩ := h
  refine ⟨Od, h2, h8, ?_⟩
  intro w' S' ws' d kk nb
  have z := kk.size
  obtain ⟨g1, g2, g3, g4, g5, g6⟩ := FSM.turn h1 h2 h3 h4 h5 h6 h7 h8 d kk nb
  refine ⟨dv, _, _, rq, rc, g1, g2, g3, g4, g5, fun h0 a e => ⟨.inl (h6 h0 a e).1, (h6 h0 a e).2.1, fun hh => ?_, fun hh => (h6 h0 a e).2.2.2 hh.1⟩, fun i hi => ⟨.inl (h7 i hi.1).1, fun hh => ?_⟩, fun i hi => ?_⟩
  · rcases hh.1 with hh | hh
    · exact (h6 h0 a e).2.2.1 hh
    · have := g6 h0 a e; omega
  · rcases hh.1 with hh | hh
    · exact (h7 i hi.1).2 hh
    · have := hi.2; omega
  · rcases hi.1 with hh | hh
    · exact .inl (h8 i hh)
    · exact .inr (by omega)
theorem FSD.dirOp (h : FSD w O b f) (hO : ∀ x, O x → x < w.heap.size) : ∃ Od, DR w Od b 1 f.S f.ws ∧ (∀ x, Od x → O x) ∧
    ∀ {w' : World} {S' : List Ent} {ws' : List Chg}, DR w' (fun i => Od i ∨ w.heap.size ≤ i) b 1 S' ws' → Kp Od w w' → Nb b 1 3 w w' → FSD w' (fun i => O i ∨ w.heap.size ≤ i) b { f with S := S', ws := ws' } := by
  obtain ⟨Ds, Of, h1, h2, h3⟩ := h
  obtain ⟨Od, d, dO, go⟩ := h1.dirOp fun x hx => hO x (h3 x hx)
  refine ⟨Od, d, fun x hx => h3 x (dO x hx), ?_⟩
  intro w' S' ws' d' kk nb
  exact ⟨Ds, _, go d' kk nb, h2.kp pkD kk fun x hl hx => ⟨fun hh => hx.2 (dO x hh), .inl hx.1, fun hh => by rcases hh with hh | hh; exact hx.2 hh; omega⟩, fun x hx => by rcases hx with hx | hx; exact .inl (h3 x hx); exact .inr hx⟩
theorem oneO (h : FSD w O b f) {w1 : World} (k1 : Kp (one_ b) w w1) : Kp O w w1 := k1.mono fun x _ hx => by have hx : x = b := hx; rw [hx]; exact h.lt.2
theorem upO {z : Nat} (h : FSD w O b f) : FSD w (fun x => O x ∨ z ≤ x) b f := h.kp (Kp.refl none_ _) fun x _ hx => ⟨id, .inl hx⟩
theorem lowO {z : Nat} (h : FSD w (fun x => O x ∨ w'.heap.size ≤ x) b f) (hz : z ≤ w'.heap.size) : FSD w (fun x => O x ∨ z ≤ x) b f := h.kp (Kp.refl none_ _) fun x _ hx => ⟨id, hx.imp id fun h => by omega⟩
def syF (f : Fst) (i : Int) : Int × Fst :=
  if refE f.rl f.k ≠ 0 then (10, cnt f) else if i < 0 ∨ f.ds.length ≤ i then (1, cnt f) else (0, { cnt f with ds := f.ds.set i.toNat (syncSt (f.ds.getD i.toNat emptySt)) })
theorem c30 (h : FSD w O b f) (o : Fok f) (i : Int) : Rets Tryz.prog 19 #[ptA b 0, .int .i64 i] w fun v w' => v = .int .i64 (syF f i).1 ∧ FSD w' (fun x => O x ∨ w.heap.size ≤ x) b (syF f i).2 ∧ Kp O w w' := by
  refine ent [_, _] Tryz.func19 ((vcTryz19 _ _ w _).mpr ?_)
  unfold VCTryz19
  refine (c76F h o).mono ?_
  rintro v w1 ⟨rfl, h1, k1⟩
  have z1 := k1.size
  have K1 := oneO h k1
  rcases (refE_or f.rl f.k).symm with e0 | e0
  · have eW : syF f i = (10, cnt f) := by unfold syF; rw [if_pos (by rw [e0]; decide)]
    rw [eW, e0]
    exact ⟨_, rfl, k1.keeps0, bif_ne (fun _ => ⟨_, rfl, rfl, upO h1, K1⟩) (fun hh => by cases hh)⟩
  rw [e0]
  refine ⟨_, rfl, k1.keeps0, bif_ne (fun hh => absurd rfl hh) fun _ => ?_⟩
  by_cases hi : i < 0 ∨ f.ds.length ≤ i
  · have eW : syF f i = (1, cnt f) := by unfold syF; rw [if_neg (by rw [e0]; simp), if_pos hi]
    rw [eW]
    refine (h1.none hi).mono ?_
    rintro v w2 ⟨e, rfl⟩
    obtain rfl := e.symm
    exact ⟨_, rfl, (Kp.refl none_ _).keeps0, bif_b (fun _ => ⟨_, rfl, rfl, upO h1, K1⟩) (fun hh => by cases hh)⟩
  · have eW : syF f i = (0, { cnt f with ds := f.ds.set i.toNat (syncSt (f.ds.getD i.toNat emptySt)) }) := by unfold syF; rw [if_neg (by rw [e0]; simp), if_neg hi]
    rw [eW]
    obtain ⟨j, rfl⟩ : ∃ j : Nat, i = j := ⟨i.toNat, by omega⟩
    have hj : j < (cnt f).ds.length := by show j < f.ds.length; omega
    obtain ⟨d, col, e77, p, cO, put⟩ := h1.disk hj
    refine e77.mono ?_
    rintro v w2 ⟨e, rfl⟩
    obtain rfl := e.symm
    refine ⟨_, rfl, (Kp.refl none_ _).keeps0, bif_b (fun hh => by cases hh) fun _ => (c16 p).mono ?_⟩
    rintro v w3 ⟨rfl, k3, col', g3, p3⟩
    exact ⟨rfl, k3.keeps0, _, rfl, rfl, lowO (put k3 g3 p3) z1, K1.then k3 fun x hx hh => cO x hh⟩
def sdF (f : Fst) : Int × Fst := if refE f.rl f.k ≠ 0 then (10, cnt f) else (0, { cnt f with S := lastE f.S f.ws, ws := [] })
theorem c31 (h : FSD w O b f) (o : Fok f) (hO : ∀ x, O x → x < w.heap.size) : Rets Tryz.prog 21 #[ptA b 0] w fun v w' => v = .int .i64 (sdF f).1 ∧ FSD w' (fun x => O x ∨ w.heap.size ≤ x) b (sdF f).2 ∧ Kp O w w' := by
  refine ent [_] Tryz.func21 ((vcTryz21 _ w _).mpr ?_)
  unfold VCTryz21
  refine (c76F h o).mono ?_
  rintro v w1 ⟨rfl, h1, k1⟩
  have z1 := k1.size
  have K1 := oneO h k1
  rcases (refE_or f.rl f.k).symm with e0 | e0
  · have eW : sdF f = (10, cnt f) := by unfold sdF; rw [if_pos (by rw [e0]; decide)]
    rw [eW, e0]
    exact ⟨_, rfl, k1.keeps0, bif_eq (fun hh => by cases hh) (fun _ => ⟨_, rfl, rfl, upO h1, K1⟩)⟩
  · have eW : sdF f = (0, { cnt f with S := lastE f.S f.ws, ws := [] }) := by unfold sdF; rw [if_neg (by rw [e0]; simp)]
    rw [eW, e0]
    obtain ⟨Od, d, dO, go⟩ := h1.dirOp fun x hx => by have := hO x hx; omega
    refine ⟨_, rfl, k1.keeps0, bif_eq (fun _ => ?_) (fun hh => absurd rfl hh)⟩
    simp only [ptr_some, ad3, Nat.zero_add, Nat.add_zero]
    refine (c38 d).mono ?_
    rintro v w2 ⟨rfl, d2, k2, n2⟩
    exact ⟨rfl, k2.keeps0, _, rfl, rfl, lowO (go d2 k2 n2) z1, K1.then k2 fun x hx hh => dO x hh⟩
end Go.Proofs.YtlgkcbdpaffigaaGreat

namespace Go.Proofs.YtlgkcbdpaffigaaGreat
open Go Go.SX Go.Proofs
set_option maxRecDepth 100000
set_option linter.unusedVariables false
set_option linter.unusedSimpArgs false
variable {w w' : World} {O O' : Nat → Prop} {b : Nat} {f : Fst}
def rnF (f : Fst) (a t : List UInt8) : Int × Fst :=
  if refE f.rl f.k ≠ 0 then (10, cnt f) else (renameE (lastE f.S f.ws) a t, { cnt f with ws := if renameE (lastE f.S f.ws) a t = 0 then f.ws ++ [⟨a, t, 0⟩] else f.ws })
theorem c52 (h : FSD w O b f) (o : Fok f) (hO : ∀ x, O x → x < w.heap.size) (a t : List UInt8) : Rets Tryz.prog 23 #[ptA b 0, .string (ba a), .string (ba t)] w fun v w' => v = .int .i64 (rnF f a t).1 ∧ FSD w' (fun x => O x ∨ w.heap.size ≤ x) b (rnF f a t).2 ∧ Kp O w w' := by
  refine ent [_, _, _] Tryz.func23 ((vcTryz23 _ _ _ w _).mpr ?_)
  unfold VCTryz23
  refine (c76F h o).mono ?_
  rintro v w1 ⟨rfl, h1, k1⟩
  have z1 := k1.size
  have K1 := oneO h k1
  rcases (refE_or f.rl f.k).symm with e0 | e0
  · have eW : rnF f a t = (10, cnt f) := by unfold rnF; rw [if_pos (by rw [e0]; decide)]
    rw [eW, e0]
    exact ⟨_, rfl, k1.keeps0, bif_ne (fun _ => ⟨_, rfl, rfl, upO h1, K1⟩) (fun hh => by cases hh)⟩
  · have eW : rnF f a t = (renameE (lastE f.S f.ws) a t, { cnt f with ws := if renameE (lastE f.S f.ws) a t = 0 then f.ws ++ [⟨a, t, 0⟩] else f.ws }) := by unfold rnF; rw [if_neg (by rw [e0]; simp)]
    rw [eW, e0]
    obtain ⟨Od, d, dO, go⟩ := h1.dirOp fun x hx => by have := hO x hx; omega
    refine ⟨_, rfl, k1.keeps0, bif_ne (fun hh => absurd rfl hh) fun _ => ?_⟩
    simp only [ptr_some, ad3, Nat.zero_add, Nat.add_zero]
    refine (c43 d (by have := o.wsl; show f.ws.length ≤ _; omega) o.last.asc a t).mono ?_
    rintro v w2 ⟨rfl, d2, k2, n2⟩
    exact ⟨_, rfl, k2.keeps0, _, rfl, rfl, lowO (go d2 k2 n2) z1, K1.then k2 fun x hx hh => dO x hh⟩
def rmF (f : Fst) (a : List UInt8) : Int × Fst :=
  if refE f.rl f.k ≠ 0 then (10, cnt f) else (removeE (lastE f.S f.ws) a, { cnt f with ws := if removeE (lastE f.S f.ws) a = 0 then f.ws ++ [⟨a, [], 0⟩] else f.ws })
theorem c53 (h : FSD w O b f) (o : Fok f) (hO : ∀ x, O x → x < w.heap.size) (a : List UInt8) : Rets Tryz.prog 25 #[ptA b 0, .string (ba a)] w fun v w' => v = .int .i64 (rmF f a).1 ∧ FSD w' (fun x => O x ∨ w.heap.size ≤ x) b (rmF f a).2 ∧ Kp O w w' := by
  refine ent [_, _] Tryz.func25 ((vcTryz25 _ _ w _).mpr ?_)
  unfold VCTryz25
  refine (c76F h o).mono ?_
  rintro v w1 ⟨rfl, h1, k1⟩
  have z1 := k1.size
  have K1 := oneO h k1
  rcases (refE_or f.rl f.k).symm with e0 | e0
  · have eW : rmF f a = (10, cnt f) := by unfold rmF; rw [if_pos (by rw [e0]; decide)]
    rw [eW, e0]
    exact ⟨_, rfl, k1.keeps0, bif_ne (fun _ => ⟨_, rfl, rfl, upO h1, K1⟩) (fun hh => by cases hh)⟩
  · have eW : rmF f a = (removeE (lastE f.S f.ws) a, { cnt f with ws := if removeE (lastE f.S f.ws) a = 0 then f.ws ++ [⟨a, [], 0⟩] else f.ws }) := by unfold rmF; rw [if_neg (by rw [e0]; simp)]
    rw [eW, e0]
    obtain ⟨Od, d, dO, go⟩ := h1.dirOp fun x hx => by have := hO x hx; omega
    refine ⟨_, rfl, k1.keeps0, bif_ne (fun hh => absurd rfl hh) fun _ => ?_⟩
    simp only [ptr_some, ad3, Nat.zero_add, Nat.add_zero]
    refine (c48 d (by have := o.wsl; show f.ws.length ≤ _; omega) o.last.asc a).mono ?_
    rintro v w2 ⟨rfl, d2, k2, n2⟩
    exact ⟨_, rfl, k2.keeps0, _, rfl, rfl, lowO (go d2 k2 n2) z1, K1.then k2 fun x hx hh => dO x hh⟩
def newF (f : Fst) (a : List UInt8) : Int := if refE f.rl f.k ≠ 0 then 10 else if 1000 ≤ f.ds.length then 14 else createE (lastE f.S f.ws) a
def mkF (f : Fst) (a : List UInt8) : Fst := if newF f a = 0 then { cnt f with ds := f.ds ++ [emptySt], ws := f.ws ++ [⟨[], a, f.ds.length⟩] } else cnt f
theorem c28F (h : FSD w O b f) (o : Fok f) (hO : ∀ x, O x → x < w.heap.size) (a : List UInt8) : Rets Tryz.prog 15 #[ptA b 0, .string (ba a)] w fun v w' => v = .tuple #[.int .i64 (if newF f a = 0 then f.ds.length else 0), .int .i64 (newF f a)] ∧ FSD w' (fun x => O x ∨ w.heap.size ≤ x) b (mkF f a) ∧ Kp O w w' := by
  obtain ⟨Ds, Of, h1, h2, h3⟩ := h
  have hlen := h2.len
  have ok := o.k
  have or := o.r
  have orl := o.rll
  have ow := o.wsl
  have en : newE f.rl f.k Ds (lastE f.S f.ws) a = newF f a := by unfold newE newF; rw [hlen]
  refine (c28 h1 (fun x hx => hO x (h3 x hx)) (by omega) (by omega) (by omega) o.last.asc (by omega) a).mono ?_
  rintro v w' ⟨rfl, k, hy, hn⟩
  have z := k.size
  rw [en, hlen] at *
  refine ⟨by rw [hlen], ?_, k.mono fun x _ hx => h3 x hx⟩
  unfold mkF
  by_cases hE : newF f a = 0
  · rw [if_pos hE]
    obtain ⟨d, d1, d2, g, B⟩ := hy hE
    have c0 := B.cell 0
    have c1 := B.cell 1
    have c2 := B.cell 2
    have p := Dsk.new d2 (fun o => B.frz o) c0 c1 c2
    have K2 := (h2.kp pkD k (Q' := fun x => (O x ∧ ¬ Of x) ∧ x < w.heap.size) fun x hl hx => ⟨hx.2, hx, hl⟩).snoc pkD p (fun hh => by omega)
    refine ⟨_, _, g, K2.kp pkD (Kp.refl none_ _) fun x hl hx => ⟨id, ?_⟩, fun x hx => ?_⟩
    · rcases hx with ⟨hx, hl⟩ | rfl
      · exact ⟨.inl hx.1, fun hh => by rcases hh with hh | hh; exact hx.2 hh; omega⟩
      · exact ⟨.inr d1, fun hh => by rcases hh with hh | hh; exact absurd (hO _ (h3 _ hh)) (by omega); exact hh.2 rfl⟩
    · rcases hx with hx | hx
      · exact .inl (h3 x hx)
      · exact .inr hx.1
  · rw [if_neg hE]
    exact ⟨Ds, _, hn hE, h2.kp pkD k fun x hl hx => ⟨hx.2, .inl hx.1, fun hh => by rcases hh with hh | hh; exact hx.2 hh; omega⟩, fun x hx => by rcases hx with hx | hx; exact .inl (h3 x hx); exact .inr hx⟩
theorem c27F (h : FSD w O b f) (hO : ∀ x, O x → x < w.heap.size) {q : Option Addr} {c : Nat} {l : List Int} (g : RowsAt w 1 intC q l) (hl : l.length ≤ 1000000) (h0 : l = [] ∨ ∃ b off, q = some ⟨b, off, none⟩) : Rets Tryz.prog 13 #[ptA b 0, .slice q l.length c] w fun v w' => v = .tuple #[] ∧ FSD w' (fun x => O x ∨ w.heap.size ≤ x) b { f with rl := l } ∧ Kp O w w' := by
  obtain ⟨Ds, Of, h1, h2, h3⟩ := h
  refine (c27 h1 (fun x hx => hO x (h3 x hx)) g hl h0).mono ?_
  rintro v w' ⟨rfl, g1, k⟩
  exact ⟨rfl, ⟨Ds, _, g1, h2.kp pkD k fun x hl hx => ⟨hx.2, .inl hx.1, fun hh => by rcases hh with hh | hh; exact hx.2 hh; omega⟩, fun x hx => by rcases hx with hx | hx; exact .inl (h3 x hx); exact .inr hx⟩, k.mono fun x _ hx => h3 x hx⟩
theorem c33F (h : FSD w O b f) (a : List UInt8) : Rets Tryz.prog 31 #[ptA b 0, .string (ba a)] w fun v w' => w' = w ∧ v = .tuple #[.int .i64 ((lookE (lastE f.S f.ws) a).getD 0), .int .i64 (if has Prod.fst (lastE f.S f.ws) a = true then 0 else 7)] := by
  obtain ⟨Ds, Of, h1, h2, h3⟩ := h
  exact c33 h1 a
/-- A file's bytes. -/
theorem c34F (h : FSD w O b f) {i : Nat} (hi : i < f.ds.length) (at_ : Int) (n : Nat) (hr : rightF at_ n = true) (hn : n = 0 → (f.ds.getD i emptySt).size = 0) : Rets Tryz.prog 33 #[ptA b 0, .int .i64 i, .int .i64 at_, .int .i64 n] w fun v w' =>
    ∃ q c, v = .tuple #[.slice q n c, .int .i64 0] ∧ Kp none_ w w' ∧ OwnRow w' (fresh w) 5 1 (.slice q n c) n (byF (readF (f.ds.getD i emptySt) at_) n) := by
  refine ent [_, _, _, _] Tryz.func33 ((vcTryz33 _ _ _ _ w _).mpr ?_)
  unfold VCTryz33
  obtain ⟨d, col, e77, p, cO, put⟩ := h.disk hi
  refine e77.mono ?_
  rintro v w2 ⟨e, rfl⟩
  obtain rfl := e.symm
  refine ⟨_, rfl, (Kp.refl none_ _).keeps0, (c17 p at_ n hr hn).mono ?_⟩
  rintro v w3 ⟨q, c, rfl, k3, ro⟩
  exact ⟨_, _, _, _, rfl, k3.keeps0, _, rfl, q, c, rfl, k3, ro⟩
end Go.Proofs.YtlgkcbdpaffigaaGreat

namespace Go.Proofs.YtlgkcbdpaffigaaGreat
open Go Go.SX Go.Proofs
set_option maxRecDepth 100000
set_option linter.unusedVariables false
set_option linter.unusedSimpArgs false
variable {w w' : World} {O O' : Nat → Prop} {b : Nat} {f : Fst}
def sumW (ds : List St) : Nat → Nat
  | 0 => 0
  | j + 1 => sumW ds j + (ds.getD j emptySt).wait.length
def tkN (ds : List St) (n j : Nat) : Nat := min n (sumW ds j)
def crDs (ds : List St) (n : Nat) (kb : Nat → Bool) (fill : Int) : Nat → List St
  | 0 => ds
  | j + 1 => (crDs ds n kb fill j).set j (crashSt (ds.getD j emptySt) (min (ds.getD j emptySt).wait.length (n - tkN ds n j)) (fun i => kb (tkN ds n j + i)) fill)
theorem crDs_len (ds : List St) (n : Nat) (kb : Nat → Bool) (fill : Int) : ∀ j, (crDs ds n kb fill j).length = ds.length
  | 0 => rfl
  | j + 1 => by
    show ((crDs ds n kb fill j).set j _).length = _
    rw [List.length_set]
    exact crDs_len ds n kb fill j
theorem crDs_get (ds : List St) (n : Nat) (kb : Nat → Bool) (fill : Int) : ∀ j i, j ≤ i → (crDs ds n kb fill j).getD i emptySt = ds.getD i emptySt
  | 0, _, _ => rfl
  | j + 1, i, h => by
    show ((crDs ds n kb fill j).set j _).getD i emptySt = _
    rw [List.getD_eq_getElem?_getD, List.getElem?_set_ne (by omega), ← List.getD_eq_getElem?_getD]
    exact crDs_get ds n kb fill j i (by omega)
theorem FSM.disksO {Ds : List Nat} {S : List Ent} {ws : List Chg} {cap k r : Int} {rl : List Int} (h : FSM w O b Ds S ws cap k r rl) : ∃ q c, w.cell? ⟨b, 0, none⟩ = some (.slice q Ds.length c) ∧ RowsAt w 1 ptC q Ds ∧ (0 < Ds.length → ∀ a, q = some a → O a.block) := by
  obtain ⟨dv, own, Od, rq, rc, h1, h2, h3, h4, h5, h6, h7, h8⟩ := h
  obtain ⟨q, c, rfl⟩ := h4.slice
  have := rwIn_of (Q := O) ptC_len (by omega) h4 fun i hi => (h7 i hi).1
  exact ⟨q, c, h1.get 0 rfl, this.1, this.2⟩
theorem FSM.setRl {Ds : List Nat} {S : List Ent} {ws : List Chg} {cap k r : Int} {rl : List Int} (h : FSM w O b Ds S ws cap k r rl) : (∃ v, w.cell? ⟨b, 7, none⟩ = some v) ∧ w.frozen? ⟨b, 7, none⟩ = false ∧ FSM (w.setCell ⟨b, 7, none⟩ (.slice none 0 0)) O b Ds S ws cap k r [] ∧ Kp (one_ b) w (w.setCell ⟨b, 7, none⟩ (.slice none 0 0)) := by
  obtain ⟨dv, own, Od, rq, rc, h1, h2, h3, h4, h5, h6, h7, h8⟩ := h
  have kk : Kp (one_ b) w (w.setCell ⟨b, 7, none⟩ (.slice none 0 0)) := kp_set _ _ _ _
  have nb : Nb b 4 4 w (w.setCell ⟨b, 7, none⟩ (.slice none 0 0)) := Nb.set w (b := b) (o := 4) (i := 3) (by omega) _
  have cc : Cs (w.setCell ⟨b, 7, none⟩ (.slice none 0 0)) b 4 [.int .i64 cap, .int .i64 k, .int .i64 r, .slice none 0 0] := h3.set 3 _
  exact ⟨(h3.slot 3 (by simp)).1, (h3.slot 3 (by simp)).2, ⟨dv, own, Od, none, 0, h1.nb kk nb (.inl (by simp)), h2.nb kk nb (.inl (by omega)), cc, h4.kp kk (fun g n cap _ hg e => by have e : g = b := e; rw [e] at hg; exact (h7 b hg).2 h2.lt.2), (fun i hi => by simp at hi), (fun h0 => by simp at h0), h7, h8⟩, kk⟩
theorem cut_add (a : Addr) (m i : Nat) : (a.add m).add i = a.add (m + i) := by
  unfold Addr.add
  by_cases hm : m = 0 <;> by_cases hi : i = 0 <;> simp [hm, hi, Nat.add_assoc]
theorem cut_bools {q : Option Addr} {n c m : Nat} {kb : Nat → Bool} (h : Bools w q n kb) (hm : m ≤ n) (hc : n ≤ c) {k : Nat} (hk : m + k ≤ n) : Bools w (cutA q c m 1) k (fun i => kb (m + i)) := fun i hi => by
  obtain ⟨a, rfl, ha⟩ := h (m + i) (by omega)
  unfold cutA
  rw [if_neg (by omega)]
  exact ⟨_, rfl, by rw [Nat.mul_one, cut_add]; exact ha⟩
theorem cut_block {q : Option Addr} {c m : Nat} {a : Addr} (h : cutA q c m 1 = some a) : ∃ a', q = some a' ∧ a'.block = a.block := by
  unfold cutA at h
  split at h
  · exact ⟨a, h, rfl⟩
  · cases q with
    | none => cases h
    | some x => cases h; exact ⟨x, rfl, (add_block _ _).symm⟩
def crashF (f : Fst) (n : Nat) (kb : Nat → Bool) (nm fill : Int) : Fst := { f with ds := crDs f.ds n kb fill f.ds.length, S := lastE f.S (f.ws.take nm.toNat), ws := [], rl := [] }
theorem c32 (h : FSD w O b f) (o : Fok f) (hO : ∀ x, O x → x < w.heap.size) {q : Option Addr} {n cp : Nat} {kb : Nat → Bool} (hcp : n ≤ cp) (hb : Bools w q n kb) (hq : 0 < n → ∀ a, q = some a → ¬ O a.block ∧ a.block < w.heap.size) (nm fill : Int) (hf : isByte fill) (hw : ∀ s ∈ f.ds, s.wait.length ≤ 90000) :
    Rets Tryz.prog 27 #[ptA b 0, .agg #[.slice q n cp, .int .i64 nm, .int .u8 fill]] w fun v w' => v = .tuple #[] ∧ FSD w' (fun x => O x ∨ w.heap.size ≤ x) b (crashF f n kb nm fill) ∧ Kp O w w' := by
  refine ent [_, _] Tryz.func27 ((vcTryz27 _ _ _ _ _ _ w _).mpr ?_)
  unfold VCTryz27
  have lb := h.lt
  obtain ⟨Ds, Of, h1, h2, h3⟩ := h
  have hlen := h2.len
  have hdl := o.dsl
  have ka : Kp none_ w (w.alloc (.cells #[.slice q n cp, .int .i64 nm, .int .u8 fill] 33)) := (Kp.refl none_ _).alloc1 _
  have za : (w.alloc (.cells #[.slice q n cp, .int .i64 nm, .int .u8 fill] 33)).heap.size = w.heap.size + 1 := alloc_size _ _
  generalize w.alloc (.cells #[.slice q n cp, .int .i64 nm, .int .u8 fill] 33) = wa at *
  refine bif_b (fun hh => by cases hh) (fun _ => ?_)
  obtain ⟨q1, c1, e1, r1, f1⟩ := (h1.kp0 ka).disksO
  simp only [ptr_some, ad3, Nat.zero_add, Nat.add_zero]
  have nS : ∀ {x : Nat}, O x ∨ wa.heap.size ≤ x → x ≠ w.heap.size := fun {x} hx e => by
    rcases hx with hx | hx
    · have := hO x hx; omega
    · omega
  refine ⟨_, _, _, e1, fun i q7 n8 n9 w' => ∃ j : Nat, i = j ∧ j ≤ f.ds.length ∧ n8 = n - tkN f.ds n j ∧ n8 ≤ n9 ∧ FSM w' Of b Ds f.S f.ws f.cap f.k f.r f.rl ∧ Dks Dsk w' (fun x => (O x ∨ wa.heap.size ≤ x) ∧ ¬ Of x) Ds (crDs f.ds n kb fill j) ∧ RowsAt w' 1 ptC q1 Ds ∧ Bools w' q7 n8 (fun i => kb (tkN f.ds n j + i)) ∧ (0 < n8 → ∀ a, q7 = some a → ¬ O a.block ∧ a.block < w.heap.size) ∧ Kp O w w' ∧ wa.heap.size ≤ w'.heap.size, fun i _ _ _ _ => (f.ds.length - i).toNat, ⟨0, rfl, by omega, by simp [tkN, sumW], hcp, h1.kp0 ka, h2.kp pkD ka fun x hl hx => ⟨id, .inl hx.1, hx.2⟩, r1, ?_, hq, ka.wide, Nat.le_refl _⟩, ?_⟩
  · have : (fun i => kb (tkN f.ds n 0 + i)) = kb := by funext i; simp [tkN, sumW]
    rw [this]
    exact hb.kp ka fun _ _ _ => id
  rintro i q7 n8 n9 w1 ⟨j, rfl, hj, hn8, hn9, m1, m2, m3, m4, m5, k1, z1⟩ _
  refine bif_dec (fun hi => ?_) (fun hi => ?_)
  · have hjl : j < f.ds.length := by omega
    have hjD : j < Ds.length := by omega
    refine ⟨⟨by omega, hi⟩, m3.get hjD fun a ea hc => ⟨_, (cell_add0 _ _).symm.trans (hc 0 _ rfl), fun _ => ?_⟩⟩
    obtain ⟨col, p, cO, put⟩ := m2.at pkD (i := j) (by rw [crDs_len]; exact hjl)
    have eD : Ds.getD j 0 = Ds[j] := by rw [List.getD_eq_getElem?_getD, List.getElem?_eq_getElem hjD]; rfl
    rw [eD] at p put
    rw [crDs_get _ _ _ _ _ _ (Nat.le_refl j)] at p
    have hmem : f.ds.getD j emptySt ∈ f.ds := List.mem_of_getElem? (getD_get f.ds emptySt hjl)
    have hwl := hw _ hmem
    have noS : ¬ ownC col w.heap.size := fun hh => nS (cO _ hh).1 rfl
    have hsz : w.heap.size < w1.heap.size := by omega
    refine (c21 p).mono ?_
    rintro v w2 ⟨rfl, e⟩
    obtain rfl := e.symm
    have em : (minI ((f.ds.getD j emptySt).wait.length : Int) (n8 : Int)).toNat = min (f.ds.getD j emptySt).wait.length n8 := by unfold minI; split <;> omega
    have em2 : 0 ≤ minI ((f.ds.getD j emptySt).wait.length : Int) (n8 : Int) ∧ minI ((f.ds.getD j emptySt).wait.length : Int) (n8 : Int) ≤ n8 := by unfold minI; split <;> omega
    have e0 : (fun i => (fun i => kb (tkN f.ds n j + i)) (0 + i)) = fun i => kb (tkN f.ds n j + i) := by funext i; simp
    have hcut := cut_bools (m := 0) (k := min (f.ds.getD j emptySt).wait.length n8) m4 (by omega) hn9 (by omega)
    rw [e0] at hcut
    refine ⟨_, rfl, (Kp.refl none_ _).keeps fun x hx => ⟨by rw [List.mem_singleton] at hx; omega, id⟩, ⟨em2.1, by omega⟩, fun _ => ?_⟩
    rw [em, Nat.sub_zero, Nat.sub_zero]
    have k0 : Kp none_ w1 w1.drew := Kp.drew1
    refine (c19 (p.kp0 k0) (hcut.kp k0 fun _ _ _ => id) (fun h0 a e => ?_) fill hf (by omega)).mono ?_
    · obtain ⟨a', e', hb'⟩ := cut_block e
      have := m5 (by omega) a' e'
      rw [hb'] at this
      by_cases ec : col a.block = 0
      · exact ec
      · rcases (cO _ ec).1 with hh | hh
        · exact absurd hh this.1
        · omega
    · rintro v w3 ⟨rfl, k3, col', g3, p3⟩
      have kk := (k0.wide (S := ownC col)).trans k3
      have zz := kk.size
      have P3 := put kk ⟨fun i hi => g3.1 i hi, g3.2⟩ p3
      refine ⟨rfl, k3.keeps fun x hx => ⟨by rw [List.mem_singleton] at hx; show x < w1.heap.size; omega, by rw [List.mem_singleton] at hx; rw [hx]; exact noS⟩, ⟨em2.1, em2.2⟩, wr64 (by omega) ⟨rfl, ⟨j + 1, by omega, by omega, ?_, by omega, ?_, ?_, ?_, ?_, ?_, ?_, by omega⟩, by first | omega | (dsimp only; omega)⟩⟩
      · show _ = n - min n (sumW f.ds j + (f.ds.getD j emptySt).wait.length)
        unfold tkN at hn8
        omega
      · exact m1.kp kk fun x hl hx => ⟨fun hh => (cO x hh).2 hx, hx⟩
      · have : crDs f.ds n kb fill (j + 1) = (crDs f.ds n kb fill j).set j (crashSt (f.ds.getD j emptySt) (min (f.ds.getD j emptySt).wait.length n8) (fun i => kb (tkN f.ds n j + i)) fill) := by rw [hn8]; rfl
        rw [this]
        exact P3.kp pkD (Kp.refl none_ _) fun x hl hx => ⟨id, by
          rcases hx with hx | hx
          · exact hx
          · exact ⟨.inr (by omega), fun hh => by have := hO x (h3 x hh); omega⟩⟩
      · exact m3.kp kk fun h0 a e hh => (cO _ hh).2 (f1 h0 a e)
      · have hc2 := cut_bools (m := min (f.ds.getD j emptySt).wait.length n8) (k := n8 - min (f.ds.getD j emptySt).wait.length n8) m4 (by omega) hn9 (by omega)
        have ef : (fun i => kb (tkN f.ds n (j + 1) + i)) = fun i => (fun i => kb (tkN f.ds n j + i)) (min (f.ds.getD j emptySt).wait.length n8 + i) := by
          funext i
          have : tkN f.ds n (j + 1) = tkN f.ds n j + min (f.ds.getD j emptySt).wait.length n8 := by
            rw [hn8]
            show min n (sumW f.ds j + (f.ds.getD j emptySt).wait.length) = min n (sumW f.ds j) + min _ (n - min n (sumW f.ds j))
            omega
          rw [this, Nat.add_assoc]
        rw [ef]
        refine hc2.kp kk fun h0 a e hh => ?_
        obtain ⟨a', e', hb'⟩ := cut_block e
        have := m5 (by omega) a' e'
        rw [hb'] at this
        rcases (cO _ hh).1 with hx | hx
        · exact this.1 hx
        · omega
      · intro h0 a e
        obtain ⟨a', e', hb'⟩ := cut_block e
        have := m5 (by omega) a' e'
        rw [hb'] at this
        exact this
      · exact k1.then kk fun x hx hh => by
          rcases (cO x hh).1 with hy | hy
          · exact hy
          · omega
  · have ej : j = f.ds.length := by omega
    subst ej
    have k0 : Kp none_ w1 w1.drew := Kp.drew1
    have F1 : FSD w1.drew (fun x => O x ∨ (wa.heap.size ≤ x ∧ x < w1.heap.size)) b { f with ds := crDs f.ds n kb fill f.ds.length } := ⟨Ds, Of, m1.kp0 k0, m2.kp pkD k0 fun x hl hx => ⟨id, hx.1.imp id fun hh => ⟨hh, hl⟩, hx.2⟩, fun x hx => .inl (h3 x hx)⟩
    obtain ⟨Od, d, dO, go⟩ := F1.dirOp fun x hx => by
      show x < w1.heap.size
      rcases hx with hx | hx
      · have := hO x hx; omega
      · exact hx.2
    intro _
    refine (c40 d (fun i hi => ?_) o.wf o.ok (by have := o.wsl; show f.ws.length ≤ _; omega) nm).mono ?_
    · show i < w1.heap.size
      rcases dO i hi with hx | hx
      · have := hO i hx; omega
      · exact hx.2
    rintro v w2 ⟨rfl, d2, k2, n2⟩
    have z2 : w1.heap.size ≤ w2.heap.size := k2.size
    obtain ⟨Ds', Of', x1, x2, x3⟩ := go d2 k2 n2
    obtain ⟨y1, y2, y3, y4⟩ := x1.setRl
    refine ⟨rfl, k2.keeps fun x hx => ⟨by rw [List.mem_singleton] at hx; show x < w1.heap.size; omega, fun hh => ?_⟩, y1, y2, .inl fun e => by have e : b = w.heap.size := e; omega, fun _ => ⟨_, rfl, rfl, ?_, ?_⟩⟩
    · rw [List.mem_singleton] at hx
      subst hx
      rcases dO _ hh with hy | hy
      · have := hO _ hy; omega
      · omega
    · have G : FSD _ (fun x => (O x ∨ (wa.heap.size ≤ x ∧ x < w1.heap.size)) ∨ w1.drew.heap.size ≤ x) b (crashF f n kb nm fill) := ⟨Ds', Of', y3, x2.kp pkD y4 fun x hl hx => ⟨fun e => hx.2 (by have e : x = b := e; rw [e]; exact x1.lt.2), hx⟩, x3⟩
      refine G.kp (Kp.refl none_ _) fun x hl hx => ⟨id, ?_⟩
      rcases hx with (hx | hx) | hx
      · exact .inl hx
      · exact .inr (by omega)
      · exact .inr (by have hx : w1.heap.size ≤ x := hx; omega)
    · refine (k1.drew.then k2 fun x hx hh => ?_).trans (y4.mono fun x _ hx => by have hx : x = b := hx; rw [hx]; exact lb.2)
      rcases dO x hh with hy | hy
      · exact hy
      · omega
end Go.Proofs.YtlgkcbdpaffigaaGreat

namespace Go.Proofs.YtlgkcbdpaffigaaGreat
open Go Go.SX Go.Proofs
set_option maxRecDepth 100000
set_option linter.unusedVariables false
set_option linter.unusedSimpArgs false
theorem named_ne {s : List UInt8} (h : named s = true) : s ≠ [] := fun e => by
  subst e
  simp [named] at h
theorem named_len {s : List UInt8} (h : named s = true) : 1 ≤ s.length ∧ s.length ≤ 100 := of_decide_eq_true h
theorem create_ok {l : List Ent} (h : WfE l) {a : List UInt8} (hc : createE l a = 0) (id : Int) : okC l ⟨[], a, id⟩ ∧ with5 l a id = doL l ⟨[], a, id⟩ := by
  unfold createE at hc
  split at hc
  · cases hc
  · split at hc
    · cases hc
    · split at hc
      · cases hc
      · rename_i h1 h2 h3
        have hn : named a = true := by simpa using h1
        have hh : has Prod.fst l a = false := by simpa using h2
        refine ⟨.inl ⟨rfl, named_len hn, hh, by show l.length < 16; omega⟩, ?_⟩
        rw [with5_eq h.asc]
        unfold doL
        rw [if_neg (named_ne hn)]
        have e1 : withoutK Prod.fst l [] = l := without_none h.no_empty
        have e2 : lookE l [] = none := by
          have := look_has (l := l) (s := [])
          rw [h.no_empty] at this
          cases hl : lookE l [] with
          | none => rfl
          | some _ => rw [hl] at this; cases this
        rw [e1, e2]
        rfl
theorem rename_ok {l : List Ent} (h : WfE l) {a b : List UInt8} (hc : renameE l a b = 0) : okC l ⟨a, b, 0⟩ ∧ with5 (withoutK Prod.fst l a) b ((lookE l a).getD 0) = doL l ⟨a, b, 0⟩ := by
  unfold renameE at hc
  split at hc
  · cases hc
  · split at hc
    · cases hc
    · rename_i h1 h2
      have hn : named b = true := by simpa using h1
      have hh : has Prod.fst l a = true := by simpa using h2
      refine ⟨.inr ⟨hh, .inr (named_len hn)⟩, ?_⟩
      rw [with5_eq (asc_without h.asc a)]
      unfold doL
      rw [if_neg (named_ne hn)]
theorem remove_ok {l : List Ent} {a : List UInt8} (hc : removeE l a = 0) : okC l ⟨a, [], 0⟩ ∧ withoutK Prod.fst l a = doL l ⟨a, [], 0⟩ := by
  unfold removeE at hc
  split at hc
  · cases hc
  · rename_i h1
    exact ⟨.inr ⟨by simpa using h1, .inl rfl⟩, by unfold doL; rw [if_pos rfl]⟩
/-- What all was, and is. -/
structure Hst (S : List Ent) (ws : List Chg) (H : List (List Ent)) (N : List Ent) : Prop where
  wf : WfE S
  ok : okCs S ws
  all : H ++ [N] = sts S ws
theorem Hst.len {S : List Ent} {ws : List Chg} {H : List (List Ent)} {N : List Ent} (h : Hst S ws H N) : H.length = ws.length := by
  have := congrArg List.length h.all
  rw [sts_len] at this
  simpa using this
theorem Hst.last {S : List Ent} {ws : List Chg} {H : List (List Ent)} {N : List Ent} (h : Hst S ws H N) : N = lastE S ws := by
  have h1 := sts_get S ws ws.length (Nat.le_refl _)
  rw [← h.all, List.take_length, ← h.len, List.getElem?_append_right (Nat.le_refl _)] at h1
  simpa using h1
theorem Hst.wfN {S : List Ent} {ws : List Chg} {H : List (List Ent)} {N : List Ent} (h : Hst S ws H N) : WfE N := by
  rw [h.last]; exact wf_last h.wf h.ok
theorem Hst.wfH {S : List Ent} {ws : List Chg} {H : List (List Ent)} {N : List Ent} (h : Hst S ws H N) : ∀ l ∈ H, WfE l := fun l hl => by
  obtain ⟨i, hi, e⟩ := List.getElem_of_mem hl
  have h1 := sts_get S ws i (by rw [← h.len]; omega)
  rw [← h.all, List.getElem?_append_left hi, List.getElem?_eq_getElem hi, e] at h1
  rw [Option.some.inj h1]
  exact wf_last h.wf (okCs_take h.ok i)
theorem Hst.snoc {S : List Ent} {ws : List Chg} {H : List (List Ent)} {N : List Ent} (h : Hst S ws H N) {c : Chg} (hc : okC N c) : Hst S (ws ++ [c]) (H ++ [N]) (doL N c) :=
  ⟨h.wf, okCs_snoc.2 ⟨h.ok, by rw [← h.last]; exact hc⟩, by rw [h.all, sts_snoc, h.last]⟩
theorem Hst.sync {S : List Ent} {ws : List Chg} {H : List (List Ent)} {N : List Ent} (h : Hst S ws H N) : Hst (lastE S ws) [] [] N := ⟨wf_last h.wf h.ok, trivial, by rw [h.last]; rfl⟩
theorem Hst.crash {S : List Ent} {ws : List Chg} {H : List (List Ent)} {N : List Ent} (h : Hst S ws H N) (n : Int) : Hst (lastE S (ws.take n.toNat)) [] [] (crashN H N n) := by
  refine ⟨wf_last h.wf (okCs_take h.ok _), trivial, ?_⟩
  have : crashN H N n = lastE S (ws.take n.toNat) := by
    unfold crashN
    by_cases hn : n.toNat < H.length
    · have h1 := sts_get S ws n.toNat (by rw [← h.len]; omega)
      rw [← h.all, List.getElem?_append_left hn] at h1
      rw [h1]; rfl
    · rw [List.getElem?_eq_none (by omega), List.take_of_length_le (by rw [← h.len]; omega)]
      exact h.last
  rw [this]
  rfl
/-- Nothing has been. -/
theorem RD.clear {w : World} {O : Nat → Prop} {b o : Nat} {H : List (List Ent)} {N : List Ent} (h : RD w O b o H N) : (∃ v, w.cell? ⟨b, o + 1, none⟩ = some v) ∧ w.frozen? ⟨b, o + 1, none⟩ = false ∧ RD (w.setCell ⟨b, o + 1, none⟩ (.slice none 0 0)) O b o [] N ∧ Kp O w (w.setCell ⟨b, o + 1, none⟩ (.slice none 0 0)) ∧ O b := by
  obtain ⟨qn, cn, vp, own, ps, h1, h2, h3, h4, h5, h6, h7⟩ := h
  have hb := h1.lt (by simp)
  obtain ⟨g1, g2⟩ := h1.slot 1 (by simp)
  exact ⟨g1, g2, ⟨qn, cn, .slice none 0 0, fun _ => False, [], by simpa using h1.set 1 (.slice none 0 0), h2, fun _ h => h.elim, h4.kp entC_len (by omega) (kp_set _ _ _ _) fun i _ hi => ⟨hi.2.1, hi.1, hi.2.1, id⟩, rfl, OwnRow.nil _ _ _ _, fun p hp => by cases hp⟩, (kp_set _ _ _ _).mono fun i _ hi => by have hi : i = b := hi; rw [hi]; exact h2, h2⟩
/-- Both directories in memory. -/
def Two (w : World) (Q : Nat → Prop) (bd bm : Nat) (st : List Ent × List Chg) : Prop :=
  ∃ (Od Om : Nat → Prop) (H : List (List Ent)) (N : List Ent), DR w Od bd 0 st.1 st.2 ∧ RD w Om bm 0 H N ∧ (∀ i, Od i → ¬ Om i) ∧ (∀ i, Od i ∨ Om i → Q i ∧ i < w.heap.size) ∧ Hst st.1 st.2 H N
theorem Two.kp {S' Q Q' : Nat → Prop} {w w' : World} {bd bm : Nat} {st : List Ent × List Chg} (h : Two w Q bd bm st) (k : Kp S' w w') (hs : ∀ i, i < w.heap.size → Q i → ¬ S' i ∧ Q' i) : Two w' Q' bd bm st := by
  obtain ⟨Od, Om, H, N, h1, h2, h3, h4, h5⟩ := h
  exact ⟨Od, Om, H, N, h1.kp k fun i hl hi => ⟨(hs i hl (h4 i (.inl hi)).1).1, hi⟩, h2.kp k fun i hl hi => ⟨(hs i hl (h4 i (.inr hi)).1).1, hi⟩, h3, fun i hi => ⟨(hs i (h4 i hi).2 (h4 i hi).1).2, Nat.lt_of_lt_of_le (h4 i hi).2 k.size⟩, h5⟩
theorem Two.kp0 {Q : Nat → Prop} {w w' : World} {bd bm : Nat} {st : List Ent × List Chg} (h : Two w Q bd bm st) (k : Kp none_ w w') : Two w' Q bd bm st := h.kp k fun i _ hi => ⟨id, hi⟩
end Go.Proofs.YtlgkcbdpaffigaaGreat

namespace Go.Proofs.YtlgkcbdpaffigaaGreat
open Go Go.SX Go.Proofs
set_option maxRecDepth 100000
set_option linter.unusedVariables false
def VCTryz8 (p0 : Int) (w : World) (R : Ending → World → Prop) : Prop :=
bif decide (p0 < (0 : Int)) then
 Known
   (w.alloc
    (Obj.cells
     #[Value.slice none (0 : Nat) (0 : Nat), Value.slice none (0 : Nat) (0 : Nat), Value.slice none (0 : Nat) (0 : Nat), Value.int IntKind.i64 (0 : Int), Value.int IntKind.i64 (0 : Int),
      Value.int IntKind.i64 (0 : Int), Value.slice none (0 : Nat) (0 : Nat)] (46 : Nat)))
   [(w.heap.size,
     [((0 : Nat), Value.slice none (0 : Nat) (0 : Nat)), ((1 : Nat), Value.slice none (0 : Nat) (0 : Nat)), ((2 : Nat), Value.slice none (0 : Nat) (0 : Nat)), ((3 : Nat), Value.int IntKind.i64 (0 : Int)),
      ((4 : Nat), Value.int IntKind.i64 (0 : Int)), ((5 : Nat), Value.int IntKind.i64 (0 : Int)), ((6 : Nat), Value.slice none (0 : Nat) (0 : Nat))])] →
  R (Ending.returned (Value.pointer (some { block := w.heap.size, off := (0 : Nat) })))
   (w.alloc
    (Obj.cells
     #[Value.slice none (0 : Nat) (0 : Nat), Value.slice none (0 : Nat) (0 : Nat), Value.slice none (0 : Nat) (0 : Nat), Value.int IntKind.i64 (0 : Int), Value.int IntKind.i64 (0 : Int),
      Value.int IntKind.i64 (0 : Int), Value.slice none (0 : Nat) (0 : Nat)] (46 : Nat)))
else
 bif decide (p0 > (65536 : Int)) then
  Known
    (w.alloc
     (Obj.cells
      #[Value.slice none (0 : Nat) (0 : Nat), Value.slice none (0 : Nat) (0 : Nat), Value.slice none (0 : Nat) (0 : Nat), Value.int IntKind.i64 (65536 : Int), Value.int IntKind.i64 (0 : Int),
       Value.int IntKind.i64 (0 : Int), Value.slice none (0 : Nat) (0 : Nat)] (46 : Nat)))
    [(w.heap.size,
      [((0 : Nat), Value.slice none (0 : Nat) (0 : Nat)), ((1 : Nat), Value.slice none (0 : Nat) (0 : Nat)), ((2 : Nat), Value.slice none (0 : Nat) (0 : Nat)), ((3 : Nat), Value.int IntKind.i64 (65536 : Int)),
       ((4 : Nat), Value.int IntKind.i64 (0 : Int)), ((5 : Nat), Value.int IntKind.i64 (0 : Int)), ((6 : Nat), Value.slice none (0 : Nat) (0 : Nat))])] →
   R (Ending.returned (Value.pointer (some { block := w.heap.size, off := (0 : Nat) })))
    (w.alloc
     (Obj.cells
      #[Value.slice none (0 : Nat) (0 : Nat), Value.slice none (0 : Nat) (0 : Nat), Value.slice none (0 : Nat) (0 : Nat), Value.int IntKind.i64 (65536 : Int), Value.int IntKind.i64 (0 : Int),
       Value.int IntKind.i64 (0 : Int), Value.slice none (0 : Nat) (0 : Nat)] (46 : Nat)))
 else
  Known
    (w.alloc
     (Obj.cells
      #[Value.slice none (0 : Nat) (0 : Nat), Value.slice none (0 : Nat) (0 : Nat), Value.slice none (0 : Nat) (0 : Nat), Value.int IntKind.i64 p0, Value.int IntKind.i64 (0 : Int), Value.int IntKind.i64 (0 : Int),
       Value.slice none (0 : Nat) (0 : Nat)] (46 : Nat)))
    [(w.heap.size,
      [((0 : Nat), Value.slice none (0 : Nat) (0 : Nat)), ((1 : Nat), Value.slice none (0 : Nat) (0 : Nat)), ((2 : Nat), Value.slice none (0 : Nat) (0 : Nat)), ((3 : Nat), Value.int IntKind.i64 p0),
       ((4 : Nat), Value.int IntKind.i64 (0 : Int)), ((5 : Nat), Value.int IntKind.i64 (0 : Int)), ((6 : Nat), Value.slice none (0 : Nat) (0 : Nat))])] →
   R (Ending.returned (Value.pointer (some { block := w.heap.size, off := (0 : Nat) })))
    (w.alloc
     (Obj.cells
      #[Value.slice none (0 : Nat) (0 : Nat), Value.slice none (0 : Nat) (0 : Nat), Value.slice none (0 : Nat) (0 : Nat), Value.int IntKind.i64 p0, Value.int IntKind.i64 (0 : Int), Value.int IntKind.i64 (0 : Int),
       Value.slice none (0 : Nat) (0 : Nat)] (46 : Nat)))
theorem vcTryz8 (p0 : Int) (w : World) (R : Ending → World → Prop) : SX.vcFn Tryz.prog [] Tryz.f8 [.v (.int .i64 p0)] [] w R = VCTryz8 p0 w R := by kernel_rfl
def VCTryz17 (p0 : Option Addr) (p1 : ByteArray) (w : World) (R : Ending → World → Prop) : Prop :=
Rets Tryz.prog (45 : Nat) #[Value.pointer p0] w fun (v0 : Value) (w1 : World) =>
 ∃ (t2 : Bool),
  v0 = Value.bool t2 ∧
   Keeps w w1 [] ∧
    bif !t2 then R (Ending.returned (Value.tuple #[Value.int IntKind.i64 (0 : Int), Value.int IntKind.i64 (10 : Int)])) w1
    else
     SX.Ptr p0 fun (a3 : Addr) =>
      ∃ (q4 : Option Addr),
       ∃ (n5 : Nat),
        ∃ (n6 : Nat),
         w1.cell? (a3.add (0 : Nat)) = some (Value.slice q4 n5 n6) ∧
          bif decide ((↑n5 : Int) ≥ (1000 : Int)) then R (Ending.returned (Value.tuple #[Value.int IntKind.i64 (0 : Int), Value.int IntKind.i64 (14 : Int)])) w1
          else
           SX.Ptr p0 fun (a7 : Addr) =>
            SX.Ptr p0 fun (a8 : Addr) =>
             ∃ (q9 : Option Addr),
              ∃ (n10 : Nat),
               ∃ (n11 : Nat),
                w1.drew.cell? (a8.add (0 : Nat)) = some (Value.slice q9 n10 n11) ∧
                 Rets Tryz.prog (46 : Nat) #[Value.pointer (some (a7.add (1 : Nat))), Value.string p1, Value.int IntKind.i64 (↑n10 : Int)] w1.drew fun (v12 : Value) (w13 : World) =>
                  ∃ (i14 : Int),
                   v12 = Value.int IntKind.i64 i14 ∧
                    Keeps w1.drew w13 [] ∧
                     bif i14 != (0 : Int) then R (Ending.returned (Value.tuple #[Value.int IntKind.i64 (0 : Int), Value.int IntKind.i64 i14])) w13
                     else
                      SX.Ptr p0 fun (a15 : Addr) =>
                       ∃ (q16 : Option Addr),
                        ∃ (n17 : Nat),
                         ∃ (n18 : Nat),
                          w13.cell? (a15.add (0 : Nat)) = some (Value.slice q16 n17 n18) ∧
                           Runs Tryz.prog
                            (Builtin.append_ #[(40 : Nat), (40 : Nat)] (40 : Nat)
                             #[Value.slice q16 n17 n18,
                              Value.slice
                               (some
                                {
                                 block :=
                                  (w13.alloc
                                     (Obj.cells
                                      #[Value.slice none (0 : Nat) (0 : Nat), Value.slice none (0 : Nat) (0 : Nat), Value.slice none (0 : Nat) (0 : Nat),
                                       Value.slice none (0 : Nat) (0 : Nat)] (71 : Nat))).heap.size,
                                 off := (0 : Nat) })
                               (1 : Nat) (1 : Nat)])
                            ((w13.alloc
                               (Obj.cells
                                #[Value.slice none (0 : Nat) (0 : Nat), Value.slice none (0 : Nat) (0 : Nat), Value.slice none (0 : Nat) (0 : Nat), Value.slice none (0 : Nat) (0 : Nat)] (71 : Nat))).alloc
                             (Obj.cells #[Value.pointer (some { block := w13.heap.size, off := (0 : Nat) })] (72 : Nat)))
                            fun (v19 : Value) (w20 : World) =>
                            ∃ (q21 : Option Addr),
                             ∃ (n22 : Nat),
                              ∃ (n23 : Nat),
                               v19 = Value.slice q21 n22 n23 ∧
                                Keeps
                                  ((w13.alloc
                                     (Obj.cells
                                      #[Value.slice none (0 : Nat) (0 : Nat), Value.slice none (0 : Nat) (0 : Nat), Value.slice none (0 : Nat) (0 : Nat),
                                       Value.slice none (0 : Nat) (0 : Nat)] (71 : Nat))).alloc
                                   (Obj.cells #[Value.pointer (some { block := w13.heap.size, off := (0 : Nat) })] (72 : Nat)))
                                  w20 [w13.heap.size] ∧
                                 SX.Ptr p0 fun (a24 : Addr) =>
                                  (∃ (v25 : Value), w20.cell? ((a24.add (0 : Nat)).add (0 : Nat)) = some v25) ∧
                                   w20.frozen? ((a24.add (0 : Nat)).add (0 : Nat)) = false ∧
                                    Apart ((a24.add (0 : Nat)).add (0 : Nat)) w13.heap.size [(0 : Nat), (1 : Nat), (2 : Nat), (3 : Nat)] ∧
                                     SX.Ptr p0 fun (a26 : Addr) =>
                                      ∃ (q27 : Option Addr),
                                       ∃ (n28 : Nat),
                                        ∃ (n29 : Nat),
                                         (w20.setCell ((a24.add (0 : Nat)).add (0 : Nat)) (Value.slice q21 n22 n23)).cell? (a26.add (0 : Nat)) = some (Value.slice q27 n28 n29) ∧
                                          Wr IntKind.i64 ((↑n28 : Int) - (1 : Int)) fun (i30 : Int) =>
                                           Known (w20.setCell ((a24.add (0 : Nat)).add (0 : Nat)) (Value.slice q21 n22 n23))
                                             [(w13.heap.size,
                                              [((0 : Nat), Value.slice none (0 : Nat) (0 : Nat)), ((1 : Nat), Value.slice none (0 : Nat) (0 : Nat)),
                                               ((2 : Nat), Value.slice none (0 : Nat) (0 : Nat)), ((3 : Nat), Value.slice none (0 : Nat) (0 : Nat))])] →
                                            R (Ending.returned (Value.tuple #[Value.int IntKind.i64 i30, Value.int IntKind.i64 (0 : Int)]))
                                             (w20.setCell ((a24.add (0 : Nat)).add (0 : Nat)) (Value.slice q21 n22 n23))
theorem vcTryz17 (p0 : Option Addr) (p1 : ByteArray) (w : World) (R : Ending → World → Prop) : SX.vcFn Tryz.prog [] Tryz.f17 [.v (.pointer p0), .v (.string p1)] [] w R = VCTryz17 p0 p1 w R := by kernel_rfl
def VCTryz18 (p0 : Option Addr) (p1 : Int) (p2 : Int) (p3 : Option Addr) (n3 c3 : Nat) (w : World) (R : Ending → World → Prop) : Prop :=
Rets Tryz.prog (45 : Nat) #[Value.pointer p0] w fun (v0 : Value) (w1 : World) =>
 ∃ (t2 : Bool),
  v0 = Value.bool t2 ∧
   Keeps w w1 [] ∧
    bif !t2 then R (Ending.returned (Value.int IntKind.i64 (10 : Int))) w1
    else
     Rets Tryz.prog (32 : Nat) #[Value.pointer p0, Value.int IntKind.i64 p1] w1 fun (v3 : Value) (w4 : World) =>
      ∃ (t5 : Bool),
       v3 = Value.bool t5 ∧
        Keeps w1 w4 [] ∧
         bif !t5 then R (Ending.returned (Value.int IntKind.i64 (1 : Int))) w4
         else
          Rets Tryz.prog (47 : Nat) #[Value.int IntKind.i64 p2, Value.int IntKind.i64 (↑n3 : Int)] w4 fun (v6 : Value) (w7 : World) =>
           ∃ (t8 : Bool),
            v6 = Value.bool t8 ∧
             Keeps w4 w7 [] ∧
              bif !t8 then R (Ending.returned (Value.int IntKind.i64 (1 : Int))) w7
              else
               SX.Ptr p0 fun (a9 : Addr) =>
                ∃ (q10 : Option Addr),
                 ∃ (n11 : Nat),
                  ∃ (n12 : Nat),
                   w7.cell? (a9.add (0 : Nat)) = some (Value.slice q10 n11 n12) ∧
                    ((0 : Int) ≤ p1 ∧ p1 < (↑n11 : Int)) ∧
                     SX.Ptr q10 fun (a13 : Addr) =>
                      ∃ (q14 : Option Addr),
                       w7.cell? (a13.add (p1.toNat * (1 : Nat))) = some (Value.pointer q14) ∧
                        SX.Ptr q14 fun (a15 : Addr) =>
                         ∃ (q16 : Option Addr),
                          ∃ (n17 : Nat),
                           ∃ (n18 : Nat),
                            w7.drew.cell? (a15.add (0 : Nat)) = some (Value.slice q16 n17 n18) ∧
                             Rets Tryz.prog (48 : Nat) #[Value.pointer q14, Value.int IntKind.i64 p2, Value.int IntKind.i64 (↑n3 : Int)] w7.drew fun (v19 : Value) (w20 : World) =>
                              ∃ (i21 : Int),
                               v19 = Value.int IntKind.i64 i21 ∧
                                Keeps w7.drew w20 [] ∧
                                 w20.cell? (a15.add (0 : Nat)) = some (Value.slice q16 n17 n18) ∧
                                  Wr IntKind.i64 (i21 - (↑n17 : Int)) fun (i22 : Int) =>
                                   bif decide (i22 > (0 : Int)) then
                                    SX.Ptr p0 fun (a23 : Addr) =>
                                     ∃ (i24 : Int),
                                      w20.drew.cell? (a23.add (3 : Nat)) = some (Value.int IntKind.i64 i24) ∧
                                       Rets Tryz.prog (30 : Nat) #[Value.pointer p0] w20.drew fun (v25 : Value) (w26 : World) =>
                                        ∃ (i27 : Int),
                                         v25 = Value.int IntKind.i64 i27 ∧
                                          Keeps w20.drew w26 [] ∧
                                           w26.cell? (a23.add (3 : Nat)) = some (Value.int IntKind.i64 i24) ∧
                                            Wr IntKind.i64 (i27 + i22) fun (i28 : Int) =>
                                             bif decide (i28 > i24) then
                                              SX.Ptr p0 fun (a29 : Addr) =>
                                               ∃ (i30 : Int),
                                                w26.cell? (a29.add (5 : Nat)) = some (Value.int IntKind.i64 i30) ∧
                                                 Wr IntKind.i64 (i30 + (1 : Int)) fun (i31 : Int) =>
                                                  SX.Ptr p0 fun (a32 : Addr) =>
                                                   (∃ (v33 : Value), w26.cell? ((a32.add (5 : Nat)).add (0 : Nat)) = some v33) ∧
                                                    w26.frozen? ((a32.add (5 : Nat)).add (0 : Nat)) = false ∧
                                                     R (Ending.returned (Value.int IntKind.i64 (9 : Int)))
                                                      (w26.setCell ((a32.add (5 : Nat)).add (0 : Nat)) (Value.int IntKind.i64 i31))
                                             else
                                              Rets Tryz.prog (49 : Nat) #[Value.pointer q14, Value.int IntKind.i64 p2, Value.slice p3 n3 c3] w26
                                               fun (v34 : Value) (w35 : World) =>
                                               ∃ (i36 : Int), v34 = Value.int IntKind.i64 i36 ∧ Keeps w26 w35 [] ∧ R (Ending.returned (Value.int IntKind.i64 i36)) w35
                                   else
                                    Rets Tryz.prog (49 : Nat) #[Value.pointer q14, Value.int IntKind.i64 p2, Value.slice p3 n3 c3] w20.drew fun (v37 : Value) (w38 : World) =>
                                     ∃ (i39 : Int), v37 = Value.int IntKind.i64 i39 ∧ Keeps w20.drew w38 [] ∧ R (Ending.returned (Value.int IntKind.i64 i39)) w38
theorem vcTryz18 (p0 : Option Addr) (p1 : Int) (p2 : Int) (p3 : Option Addr) (n3 c3 : Nat) (w : World) (R : Ending → World → Prop) : SX.vcFn Tryz.prog [] Tryz.f18 [.v (.pointer p0), .v (.int .i64 p1), .v (.int .i64 p2), .v (.slice p3 n3 c3)] [] w R = VCTryz18 p0 p1 p2 p3 n3 c3 w R := by kernel_rfl
def VCTryz20 (p0 : Option Addr) (p1 : Int) (w : World) (R : Ending → World → Prop) : Prop :=
Rets Tryz.prog (45 : Nat) #[Value.pointer p0] w fun (v0 : Value) (w1 : World) =>
 ∃ (t2 : Bool),
  v0 = Value.bool t2 ∧
   Keeps w w1 [] ∧
    bif !t2 then R (Ending.returned (Value.int IntKind.i64 (10 : Int))) w1
    else
     Rets Tryz.prog (32 : Nat) #[Value.pointer p0, Value.int IntKind.i64 p1] w1 fun (v3 : Value) (w4 : World) =>
      ∃ (t5 : Bool),
       v3 = Value.bool t5 ∧
        Keeps w1 w4 [] ∧
         bif !t5 then R (Ending.returned (Value.int IntKind.i64 (1 : Int))) w4
         else
          SX.Ptr p0 fun (a6 : Addr) =>
           ∃ (q7 : Option Addr),
            ∃ (n8 : Nat),
             ∃ (n9 : Nat),
              w4.cell? (a6.add (0 : Nat)) = some (Value.slice q7 n8 n9) ∧
               ((0 : Int) ≤ p1 ∧ p1 < (↑n8 : Int)) ∧
                SX.Ptr q7 fun (a10 : Addr) =>
                 ∃ (q11 : Option Addr),
                  w4.cell? (a10.add (p1.toNat * (1 : Nat))) = some (Value.pointer q11) ∧
                   Rets Tryz.prog (51 : Nat) #[Value.pointer q11] w4 fun (v12 : Value) (w13 : World) =>
                    v12 = Value.tuple #[] ∧ Keeps w4 w13 [] ∧ R (Ending.returned (Value.int IntKind.i64 (0 : Int))) w13
theorem vcTryz20 (p0 : Option Addr) (p1 : Int) (w : World) (R : Ending → World → Prop) : SX.vcFn Tryz.prog [] Tryz.f20 [.v (.pointer p0), .v (.int .i64 p1)] [] w R = VCTryz20 p0 p1 w R := by kernel_rfl
def VCTryz22 (p0 : Option Addr) (w : World) (R : Ending → World → Prop) : Prop :=
Rets Tryz.prog (45 : Nat) #[Value.pointer p0] w fun (v0 : Value) (w1 : World) =>
 ∃ (t2 : Bool),
  v0 = Value.bool t2 ∧
   Keeps w w1 [] ∧
    bif !t2 then R (Ending.returned (Value.int IntKind.i64 (10 : Int))) w1
    else
     SX.Ptr p0 fun (a3 : Addr) =>
      (∃ (v4 : Value), w1.cell? (((a3.add (1 : Nat)).add (1 : Nat)).add (0 : Nat)) = some v4) ∧
       w1.frozen? (((a3.add (1 : Nat)).add (1 : Nat)).add (0 : Nat)) = false ∧
        R (Ending.returned (Value.int IntKind.i64 (0 : Int))) (w1.setCell (((a3.add (1 : Nat)).add (1 : Nat)).add (0 : Nat)) (Value.slice none (0 : Nat) (0 : Nat)))
theorem vcTryz22 (p0 : Option Addr) (w : World) (R : Ending → World → Prop) : SX.vcFn Tryz.prog [] Tryz.f22 [.v (.pointer p0)] [] w R = VCTryz22 p0 w R := by kernel_rfl
def VCTryz24 (p0 : Option Addr) (p1 : ByteArray) (p2 : ByteArray) (w : World) (R : Ending → World → Prop) : Prop :=
Rets Tryz.prog (45 : Nat) #[Value.pointer p0] w fun (v0 : Value) (w1 : World) =>
 ∃ (t2 : Bool),
  v0 = Value.bool t2 ∧
   Keeps w w1 [] ∧
    bif !t2 then R (Ending.returned (Value.int IntKind.i64 (10 : Int))) w1
    else
     SX.Ptr p0 fun (a3 : Addr) =>
      Rets Tryz.prog (54 : Nat) #[Value.pointer (some (a3.add (1 : Nat))), Value.string p1, Value.string p2] w1 fun (v4 : Value) (w5 : World) =>
       ∃ (i6 : Int), v4 = Value.int IntKind.i64 i6 ∧ Keeps w1 w5 [] ∧ R (Ending.returned (Value.int IntKind.i64 i6)) w5
theorem vcTryz24 (p0 : Option Addr) (p1 : ByteArray) (p2 : ByteArray) (w : World) (R : Ending → World → Prop) : SX.vcFn Tryz.prog [] Tryz.f24 [.v (.pointer p0), .v (.string p1), .v (.string p2)] [] w R = VCTryz24 p0 p1 p2 w R := by kernel_rfl
def VCTryz26 (p0 : Option Addr) (p1 : ByteArray) (w : World) (R : Ending → World → Prop) : Prop :=
Rets Tryz.prog (45 : Nat) #[Value.pointer p0] w fun (v0 : Value) (w1 : World) =>
 ∃ (t2 : Bool),
  v0 = Value.bool t2 ∧
   Keeps w w1 [] ∧
    bif !t2 then R (Ending.returned (Value.int IntKind.i64 (10 : Int))) w1
    else
     SX.Ptr p0 fun (a3 : Addr) =>
      Rets Tryz.prog (56 : Nat) #[Value.pointer (some (a3.add (1 : Nat))), Value.string p1] w1 fun (v4 : Value) (w5 : World) =>
       ∃ (i6 : Int), v4 = Value.int IntKind.i64 i6 ∧ Keeps w1 w5 [] ∧ R (Ending.returned (Value.int IntKind.i64 i6)) w5
theorem vcTryz26 (p0 : Option Addr) (p1 : ByteArray) (w : World) (R : Ending → World → Prop) : SX.vcFn Tryz.prog [] Tryz.f26 [.v (.pointer p0), .v (.string p1)] [] w R = VCTryz26 p0 p1 w R := by kernel_rfl
def VCTryz45 (p0 : Option Addr) (w : World) (R : Ending → World → Prop) : Prop :=
SX.Ptr p0 fun (a0 : Addr) =>
 ∃ (i1 : Int),
  w.cell? (a0.add (4 : Nat)) = some (Value.int IntKind.i64 i1) ∧
   Wr IntKind.i64 (i1 + (1 : Int)) fun (i2 : Int) =>
    SX.Ptr p0 fun (a3 : Addr) =>
     (∃ (v4 : Value), w.cell? ((a3.add (4 : Nat)).add (0 : Nat)) = some v4) ∧
      w.frozen? ((a3.add (4 : Nat)).add (0 : Nat)) = false ∧
       ∃ (I5 : Int → World → Prop),
        ∃ (I6 : Int → World → Nat),
         I5 (0 : Int) (w.setCell ((a3.add (4 : Nat)).add (0 : Nat)) (Value.int IntKind.i64 i2)) ∧
          ∀ (i7 : Int) (w8 : World),
           I5 i7 w8 →
            SX.Ptr p0 fun (a9 : Addr) =>
             ∃ (q10 : Option Addr),
              ∃ (n11 : Nat),
               ∃ (n12 : Nat),
                w8.cell? (a9.add (6 : Nat)) = some (Value.slice q10 n11 n12) ∧
                 bif decide (i7 < (↑n11 : Int)) then
                  SX.Ptr p0 fun (a13 : Addr) =>
                   ∃ (q14 : Option Addr),
                    ∃ (n15 : Nat),
                     ∃ (n16 : Nat),
                      w8.drew.cell? (a13.add (6 : Nat)) = some (Value.slice q14 n15 n16) ∧
                       ((0 : Int) ≤ i7 ∧ i7 < (↑n15 : Int)) ∧
                        SX.Ptr q14 fun (a17 : Addr) =>
                         ∃ (i18 : Int),
                          w8.drew.cell? (a17.add (i7.toNat * (1 : Nat))) = some (Value.int IntKind.i64 i18) ∧
                           SX.Ptr p0 fun (a19 : Addr) =>
                            ∃ (i20 : Int),
                             w8.drew.cell? (a19.add (4 : Nat)) = some (Value.int IntKind.i64 i20) ∧
                              bif i18 == i20 then
                               SX.Ptr p0 fun (a21 : Addr) =>
                                ∃ (i22 : Int),
                                 w8.drew.cell? (a21.add (5 : Nat)) = some (Value.int IntKind.i64 i22) ∧
                                  Wr IntKind.i64 (i22 + (1 : Int)) fun (i23 : Int) =>
                                   SX.Ptr p0 fun (a24 : Addr) =>
                                    (∃ (v25 : Value), w8.drew.cell? ((a24.add (5 : Nat)).add (0 : Nat)) = some v25) ∧
                                     w8.drew.frozen? ((a24.add (5 : Nat)).add (0 : Nat)) = false ∧
                                      R (Ending.returned (Value.bool false)) (w8.drew.setCell ((a24.add (5 : Nat)).add (0 : Nat)) (Value.int IntKind.i64 i23))
                              else Wr IntKind.i64 (i7 + (1 : Int)) fun (i26 : Int) => I5 i26 w8.drew ∧ I6 i26 w8.drew < I6 i7 w8
                 else R (Ending.returned (Value.bool true)) w8
theorem vcTryz45 (p0 : Option Addr) (w : World) (R : Ending → World → Prop) : SX.vcFn Tryz.prog [(3, ⟨[(3, .int .i64)], [0], []⟩)] Tryz.f45 [.v (.pointer p0)] [] w R = VCTryz45 p0 w R := by kernel_rfl
def VCTryz32 (p0 : Option Addr) (p1 : Int) (w : World) (R : Ending → World → Prop) : Prop :=
bif decide (p1 ≥ (0 : Int)) then
 SX.Ptr p0 fun (a0 : Addr) => ∃ (q1 : Option Addr), ∃ (n2 : Nat), ∃ (n3 : Nat), w.cell? (a0.add (0 : Nat)) = some (Value.slice q1 n2 n3) ∧ R (Ending.returned (Value.bool (decide (p1 < (↑n2 : Int))))) w
else R (Ending.returned (Value.bool false)) w
theorem vcTryz32 (p0 : Option Addr) (p1 : Int) (w : World) (R : Ending → World → Prop) : SX.vcFn Tryz.prog [] Tryz.f32 [.v (.pointer p0), .v (.int .i64 p1)] [] w R = VCTryz32 p0 p1 w R := by kernel_rfl
def VCTryz30 (p0 : Option Addr) (w : World) (R : Ending → World → Prop) : Prop :=
∃ (I0 : Int → Int → World → Prop),
 ∃ (I1 : Int → Int → World → Nat),
  I0 (0 : Int) (0 : Int) w ∧
   ∀ (i2 i3 : Int) (w4 : World),
    I0 i2 i3 w4 →
     SX.Ptr p0 fun (a5 : Addr) =>
      ∃ (q6 : Option Addr),
       ∃ (n7 : Nat),
        ∃ (n8 : Nat),
         w4.cell? (a5.add (0 : Nat)) = some (Value.slice q6 n7 n8) ∧
          bif decide (i2 < (↑n7 : Int)) then
           SX.Ptr p0 fun (a9 : Addr) =>
            Rets Tryz.prog (62 : Nat) #[Value.pointer (some (a9.add (1 : Nat))), Value.int IntKind.i64 i2] w4 fun (v10 : Value) (w11 : World) =>
             ∃ (t12 : Bool),
              v10 = Value.bool t12 ∧
               Keeps w4 w11 [] ∧
                bif t12 then
                 SX.Ptr p0 fun (a13 : Addr) =>
                  ∃ (q14 : Option Addr),
                   ∃ (n15 : Nat),
                    ∃ (n16 : Nat),
                     w11.cell? (a13.add (0 : Nat)) = some (Value.slice q14 n15 n16) ∧
                      ((0 : Int) ≤ i2 ∧ i2 < (↑n15 : Int)) ∧
                       SX.Ptr q14 fun (a17 : Addr) =>
                        ∃ (q18 : Option Addr),
                         w11.cell? (a17.add (i2.toNat * (1 : Nat))) = some (Value.pointer q18) ∧
                          SX.Ptr q18 fun (a19 : Addr) =>
                           ∃ (q20 : Option Addr),
                            ∃ (n21 : Nat),
                             ∃ (n22 : Nat),
                              w11.cell? (a19.add (0 : Nat)) = some (Value.slice q20 n21 n22) ∧
                               Wr IntKind.i64 (i3 + (↑n21 : Int)) fun (i23 : Int) => Wr IntKind.i64 (i2 + (1 : Int)) fun (i24 : Int) => I0 i24 i23 w11 ∧ I1 i24 i23 w11 < I1 i2 i3 w4
                else Wr IntKind.i64 (i2 + (1 : Int)) fun (i25 : Int) => I0 i25 i3 w11 ∧ I1 i25 i3 w11 < I1 i2 i3 w4
          else R (Ending.returned (Value.int IntKind.i64 i3)) w4
theorem vcTryz30 (p0 : Option Addr) (w : World) (R : Ending → World → Prop) : SX.vcFn Tryz.prog [(3, ⟨[(4, .int .i64), (3, .int .i64)], [0], []⟩)] Tryz.f30 [.v (.pointer p0)] [] w R = VCTryz30 p0 w R := by kernel_rfl
def VCTryz5 (p0 : Option Addr) (n0 c0 : Nat) (w : World) (R : Ending → World → Prop) : Prop :=
∃ (I0 : Int → World → Prop),
 ∃ (I1 : Int → World → Nat),
  I0 (0 : Int) w ∧
   ∀ (i2 : Int) (w3 : World),
    I0 i2 w3 →
     bif decide (i2 < (↑n0 : Int)) then
      bif decide (i2 < (100 : Int)) then
       ((0 : Int) ≤ i2 ∧ i2 < (↑n0 : Int)) ∧
        SX.Ptr p0 fun (a4 : Addr) =>
         ∃ (q5 : Option Addr),
          ∃ (n6 : Nat),
           ∃ (n7 : Nat),
            w3.cell? ((a4.add (i2.toNat * (10 : Nat))).add (5 : Nat)) = some (Value.slice q5 n6 n7) ∧
             bif decide ((↑n6 : Int) > (3000 : Int)) then R (Ending.returned (Value.bool true)) w3
             else
              ((0 : Int) ≤ i2 ∧ i2 < (↑n0 : Int)) ∧
               SX.Ptr p0 fun (a8 : Addr) =>
                ∃ (i9 : Int),
                 w3.cell? ((a8.add (i2.toNat * (10 : Nat))).add (2 : Nat)) = some (Value.int IntKind.i64 i9) ∧
                  bif decide (i9 > (20000 : Int)) then
                   ((0 : Int) ≤ i2 ∧ i2 < (↑n0 : Int)) ∧
                    SX.Ptr p0 fun (a10 : Addr) =>
                     ∃ (i11 : Int),
                      w3.cell? ((a10.add (i2.toNat * (10 : Nat))).add (2 : Nat)) = some (Value.int IntKind.i64 i11) ∧
                       bif decide (i11 ≤ (2097152 : Int)) then R (Ending.returned (Value.bool true)) w3
                       else
                        ((0 : Int) ≤ i2 ∧ i2 < (↑n0 : Int)) ∧
                         SX.Ptr p0 fun (a12 : Addr) =>
                          ∃ (s13 : ByteArray),
                           w3.cell? ((a12.add (i2.toNat * (10 : Nat))).add (3 : Nat)) = some (Value.string s13) ∧
                            bif decide ((↑s13.size : Int) > (300 : Int)) then R (Ending.returned (Value.bool true)) w3
                            else
                             ((0 : Int) ≤ i2 ∧ i2 < (↑n0 : Int)) ∧
                              SX.Ptr p0 fun (a14 : Addr) =>
                               ∃ (s15 : ByteArray),
                                w3.cell? ((a14.add (i2.toNat * (10 : Nat))).add (4 : Nat)) = some (Value.string s15) ∧
                                 bif decide ((↑s15.size : Int) > (300 : Int)) then R (Ending.returned (Value.bool true)) w3
                                 else
                                  ((0 : Int) ≤ i2 ∧ i2 < (↑n0 : Int)) ∧
                                   SX.Ptr p0 fun (a16 : Addr) =>
                                    ∃ (q17 : Option Addr),
                                     ∃ (n18 : Nat),
                                      ∃ (n19 : Nat),
                                       w3.cell? ((a16.add (i2.toNat * (10 : Nat))).add (9 : Nat)) = some (Value.slice q17 n18 n19) ∧
                                        bif decide ((↑n18 : Int) > (50 : Int)) then R (Ending.returned (Value.bool true)) w3
                                        else
                                         ((0 : Int) ≤ i2 ∧ i2 < (↑n0 : Int)) ∧
                                          SX.Ptr p0 fun (a20 : Addr) =>
                                           ∃ (q21 : Option Addr),
                                            ∃ (n22 : Nat),
                                             ∃ (n23 : Nat),
                                              w3.cell? (((a20.add (i2.toNat * (10 : Nat))).add (6 : Nat)).add (0 : Nat)) = some (Value.slice q21 n22 n23) ∧
                                               bif decide ((↑n22 : Int) > (500 : Int)) then R (Ending.returned (Value.bool true)) w3
                                               else Wr IntKind.i64 (i2 + (1 : Int)) fun (i24 : Int) => I0 i24 w3 ∧ I1 i24 w3 < I1 i2 w3
                  else
                   ((0 : Int) ≤ i2 ∧ i2 < (↑n0 : Int)) ∧
                    SX.Ptr p0 fun (a25 : Addr) =>
                     ∃ (s26 : ByteArray),
                      w3.cell? ((a25.add (i2.toNat * (10 : Nat))).add (3 : Nat)) = some (Value.string s26) ∧
                       bif decide ((↑s26.size : Int) > (300 : Int)) then R (Ending.returned (Value.bool true)) w3
                       else
                        ((0 : Int) ≤ i2 ∧ i2 < (↑n0 : Int)) ∧
                         SX.Ptr p0 fun (a27 : Addr) =>
                          ∃ (s28 : ByteArray),
                           w3.cell? ((a27.add (i2.toNat * (10 : Nat))).add (4 : Nat)) = some (Value.string s28) ∧
                            bif decide ((↑s28.size : Int) > (300 : Int)) then R (Ending.returned (Value.bool true)) w3
                            else
                             ((0 : Int) ≤ i2 ∧ i2 < (↑n0 : Int)) ∧
                              SX.Ptr p0 fun (a29 : Addr) =>
                               ∃ (q30 : Option Addr),
                                ∃ (n31 : Nat),
                                 ∃ (n32 : Nat),
                                  w3.cell? ((a29.add (i2.toNat * (10 : Nat))).add (9 : Nat)) = some (Value.slice q30 n31 n32) ∧
                                   bif decide ((↑n31 : Int) > (50 : Int)) then R (Ending.returned (Value.bool true)) w3
                                   else
                                    ((0 : Int) ≤ i2 ∧ i2 < (↑n0 : Int)) ∧
                                     SX.Ptr p0 fun (a33 : Addr) =>
                                      ∃ (q34 : Option Addr),
                                       ∃ (n35 : Nat),
                                        ∃ (n36 : Nat),
                                         w3.cell? (((a33.add (i2.toNat * (10 : Nat))).add (6 : Nat)).add (0 : Nat)) = some (Value.slice q34 n35 n36) ∧
                                          bif decide ((↑n35 : Int) > (500 : Int)) then R (Ending.returned (Value.bool true)) w3
                                          else Wr IntKind.i64 (i2 + (1 : Int)) fun (i37 : Int) => I0 i37 w3 ∧ I1 i37 w3 < I1 i2 w3
      else R (Ending.returned (Value.bool (decide ((↑n0 : Int) > (60 : Int))))) w3
     else R (Ending.returned (Value.bool (decide ((↑n0 : Int) > (60 : Int))))) w3
theorem vcTryz5 (p0 : Option Addr) (n0 c0 : Nat) (w : World) (R : Ending → World → Prop) : SX.vcFn Tryz.prog [(2, ⟨[(3, .int .i64)], [0], []⟩)] Tryz.f5 [.v (.slice p0 n0 c0)] [] w R = VCTryz5 p0 n0 c0 w R := by kernel_rfl
def VCTryz28 (p : Option Addr) (qk : Option Addr) (nk ck : Nat) (nm : Int) (fill : Int) (w : World) (R : Ending → World → Prop) : Prop :=
∃ (I0 : Int → Int → World → Prop),
 ∃ (I1 : Int → Int → World → Nat),
  I0 (0 : Int) (0 : Int) (w.alloc (Obj.cells #[Value.slice qk nk ck, Value.int IntKind.i64 nm, Value.int IntKind.u8 fill] (33 : Nat))) ∧
   ∀ (i2 i3 : Int) (w4 : World),
    I0 i2 i3 w4 →
     Known w4 [(w.heap.size, [((0 : Nat), Value.slice qk nk ck), ((1 : Nat), Value.int IntKind.i64 nm), ((2 : Nat), Value.int IntKind.u8 fill)])] →
      SX.Ptr p fun (a5 : Addr) =>
       ∃ (q6 : Option Addr),
        ∃ (n7 : Nat),
         ∃ (n8 : Nat),
          w4.cell? (a5.add (0 : Nat)) = some (Value.slice q6 n7 n8) ∧
           bif decide (i2 < (↑n7 : Int)) then
            ∃ (I9 : Int → Int → Option Addr → Nat → Nat → World → Prop),
             ∃ (I10 : Int → Int → Option Addr → Nat → Nat → World → Nat),
              I9 (0 : Int) i3 none (0 : Nat) (0 : Nat) w4 ∧
               ∀ (i11 i12 : Int) (q13 : Option Addr) (n14 n15 : Nat) (w16 : World),
                I9 i11 i12 q13 n14 n15 w16 →
                 Known w16 [(w.heap.size, [((0 : Nat), Value.slice qk nk ck), ((1 : Nat), Value.int IntKind.i64 nm), ((2 : Nat), Value.int IntKind.u8 fill)])] →
                  SX.Ptr p fun (a17 : Addr) =>
                   ∃ (q18 : Option Addr),
                    ∃ (n19 : Nat),
                     ∃ (n20 : Nat),
                      w16.cell? (a17.add (0 : Nat)) = some (Value.slice q18 n19 n20) ∧
                       ((0 : Int) ≤ i2 ∧ i2 < (↑n19 : Int)) ∧
                        SX.Ptr q18 fun (a21 : Addr) =>
                         ∃ (q22 : Option Addr),
                          w16.cell? (a21.add (i2.toNat * (1 : Nat))) = some (Value.pointer q22) ∧
                           SX.Ptr q22 fun (a23 : Addr) =>
                            ∃ (q24 : Option Addr),
                             ∃ (n25 : Nat),
                              ∃ (n26 : Nat),
                               w16.cell? (a23.add (3 : Nat)) = some (Value.slice q24 n25 n26) ∧
                                bif decide (i11 < (↑n25 : Int)) then
                                 bif decide (i12 < (↑nk : Int)) then
                                  ((0 : Int) ≤ i12 ∧ i12 < (↑nk : Int)) ∧
                                   SX.Ptr qk fun (a27 : Addr) =>
                                    ∃ (t28 : Bool),
                                     w16.cell? (a27.add (i12.toNat * (1 : Nat))) = some (Value.bool t28) ∧
                                      Runs Tryz.prog
                                       (Builtin.append_ #[(31 : Nat), (31 : Nat)] (31 : Nat)
                                        #[Value.slice q13 n14 n15, Value.slice (some { block := w16.heap.size, off := (0 : Nat) }) (1 : Nat) (1 : Nat)])
                                       (w16.alloc (Obj.cells #[Value.bool t28] (4 : Nat))) fun (v29 : Value) (w30 : World) =>
                                       ∃ (q31 : Option Addr),
                                        ∃ (n32 : Nat),
                                         ∃ (n33 : Nat),
                                          v29 = Value.slice q31 n32 n33 ∧
                                           Keeps (w16.alloc (Obj.cells #[Value.bool t28] (4 : Nat))) w30 [w.heap.size] ∧
                                            Wr IntKind.i64 (i12 + (1 : Int)) fun (i34 : Int) =>
                                             Wr IntKind.i64 (i11 + (1 : Int)) fun (i35 : Int) =>
                                              SameVals [Value.slice qk nk ck, Value.int IntKind.i64 nm, Value.int IntKind.u8 fill]
                                                [Value.slice qk nk ck, Value.int IntKind.i64 nm, Value.int IntKind.u8 fill] ∧
                                               I9 i35 i34 q31 n32 n33 w30 ∧ I10 i35 i34 q31 n32 n33 w30 < I10 i11 i12 q13 n14 n15 w16
                                 else
                                  Runs Tryz.prog
                                   (Builtin.append_ #[(31 : Nat), (31 : Nat)] (31 : Nat)
                                    #[Value.slice q13 n14 n15, Value.slice (some { block := w16.heap.size, off := (0 : Nat) }) (1 : Nat) (1 : Nat)])
                                   (w16.alloc (Obj.cells #[Value.bool false] (4 : Nat))) fun (v36 : Value) (w37 : World) =>
                                   ∃ (q38 : Option Addr),
                                    ∃ (n39 : Nat),
                                     ∃ (n40 : Nat),
                                      v36 = Value.slice q38 n39 n40 ∧
                                       Keeps (w16.alloc (Obj.cells #[Value.bool false] (4 : Nat))) w37 [w.heap.size] ∧
                                        Wr IntKind.i64 (i12 + (1 : Int)) fun (i41 : Int) =>
                                         Wr IntKind.i64 (i11 + (1 : Int)) fun (i42 : Int) =>
                                          SameVals [Value.slice qk nk ck, Value.int IntKind.i64 nm, Value.int IntKind.u8 fill]
                                            [Value.slice qk nk ck, Value.int IntKind.i64 nm, Value.int IntKind.u8 fill] ∧
                                           I9 i42 i41 q38 n39 n40 w37 ∧ I10 i42 i41 q38 n39 n40 w37 < I10 i11 i12 q13 n14 n15 w16
                                else
                                 SX.Ptr p fun (a43 : Addr) =>
                                  ∃ (q44 : Option Addr),
                                   ∃ (n45 : Nat),
                                    ∃ (n46 : Nat),
                                     w16.drew.cell? (a43.add (0 : Nat)) = some (Value.slice q44 n45 n46) ∧
                                      ((0 : Int) ≤ i2 ∧ i2 < (↑n45 : Int)) ∧
                                       SX.Ptr q44 fun (a47 : Addr) =>
                                        ∃ (q48 : Option Addr),
                                         w16.drew.cell? (a47.add (i2.toNat * (1 : Nat))) = some (Value.pointer q48) ∧
                                          (Known w16.drew
                                            [(w.heap.size,
                                              [((0 : Nat), Value.slice qk nk ck), ((1 : Nat), Value.int IntKind.i64 nm), ((2 : Nat), Value.int IntKind.u8 fill)])] →
                                           Rets Tryz.prog (59 : Nat) #[Value.pointer q48, Value.slice q13 n14 n15, Value.int IntKind.u8 fill] w16.drew
                                            fun (v49 : Value) (w50 : World) =>
                                            v49 = Value.tuple #[] ∧
                                             Keeps w16.drew w50 [w.heap.size] ∧
                                              Wr IntKind.i64 (i2 + (1 : Int)) fun (i51 : Int) =>
                                               SameVals [Value.slice qk nk ck, Value.int IntKind.i64 nm, Value.int IntKind.u8 fill]
                                                 [Value.slice qk nk ck, Value.int IntKind.i64 nm, Value.int IntKind.u8 fill] ∧
                                                I0 i51 i12 w50 ∧ I1 i51 i12 w50 < I1 i2 i3 w4)
           else
            SX.Ptr p fun (a52 : Addr) =>
             Known w4.drew [(w.heap.size, [((0 : Nat), Value.slice qk nk ck), ((1 : Nat), Value.int IntKind.i64 nm), ((2 : Nat), Value.int IntKind.u8 fill)])] →
              Rets Tryz.prog (60 : Nat) #[Value.pointer (some (a52.add (1 : Nat))), Value.int IntKind.i64 nm] w4.drew fun (v53 : Value) (w54 : World) =>
               v53 = Value.tuple #[] ∧
                Keeps w4.drew w54 [w.heap.size] ∧
                 SX.Ptr p fun (a55 : Addr) =>
                  (∃ (v56 : Value), w54.cell? ((a55.add (6 : Nat)).add (0 : Nat)) = some v56) ∧
                   w54.frozen? ((a55.add (6 : Nat)).add (0 : Nat)) = false ∧
                    Apart ((a55.add (6 : Nat)).add (0 : Nat)) w.heap.size [(0 : Nat), (1 : Nat), (2 : Nat)] ∧
                     (Known (w54.setCell ((a55.add (6 : Nat)).add (0 : Nat)) (Value.slice none (0 : Nat) (0 : Nat)))
                       [(w.heap.size, [((0 : Nat), Value.slice qk nk ck), ((1 : Nat), Value.int IntKind.i64 nm), ((2 : Nat), Value.int IntKind.u8 fill)])] →
                      R (Ending.returned (Value.tuple #[])) (w54.setCell ((a55.add (6 : Nat)).add (0 : Nat)) (Value.slice none (0 : Nat) (0 : Nat))))
theorem vcTryz28 (p : Option Addr) (qk : Option Addr) (nk ck : Nat) (nm : Int) (fill : Int) (w : World) (R : Ending → World → Prop) : SX.vcFn Tryz.prog [(7, ⟨[(7, .int .i64), (4, .int .i64), (6, .slice)], [3, 5, 0], []⟩), (3, ⟨[(5, .int .i64), (4, .int .i64)], [0, 3], []⟩)] Tryz.f28 [.v (.pointer p), .v (.agg #[.slice qk nk ck, .int .i64 nm, .int .u8 fill])] [] w R = VCTryz28 p qk nk ck nm fill w R := by kernel_rfl
def VCTryz9 (p m : Option Addr) (k id at_ : Int) (a t : ByteArray) (qb : Option Addr) (nb cb : Nat) (qk : Option Addr) (nk ck : Nat) (nm fill : Int) (qn : Option Addr) (nn cn : Nat) (w : World) (R : Ending → World → Prop) : Prop :=
bif k == (0 : Int) then
 Known
   (w.alloc
    (Obj.cells
     #[Value.int IntKind.i64 k, Value.int IntKind.i64 id, Value.int IntKind.i64 at_, Value.string a, Value.string t, Value.slice qb nb cb, Value.slice qk nk ck, Value.int IntKind.i64 nm, Value.int IntKind.u8 fill,
      Value.slice qn nn cn] (36 : Nat)))
   [(w.heap.size,
     [((0 : Nat), Value.int IntKind.i64 k), ((1 : Nat), Value.int IntKind.i64 id), ((2 : Nat), Value.int IntKind.i64 at_), ((3 : Nat), Value.string a), ((4 : Nat), Value.string t), ((5 : Nat), Value.slice qb nb cb),
      ((6 : Nat), Value.slice qk nk ck), ((7 : Nat), Value.int IntKind.i64 nm), ((8 : Nat), Value.int IntKind.u8 fill), ((9 : Nat), Value.slice qn nn cn)])] →
  Rets Tryz.prog (15 : Nat) #[Value.pointer p, Value.string a]
   (w.alloc
    (Obj.cells
     #[Value.int IntKind.i64 k, Value.int IntKind.i64 id, Value.int IntKind.i64 at_, Value.string a, Value.string t, Value.slice qb nb cb, Value.slice qk nk ck, Value.int IntKind.i64 nm, Value.int IntKind.u8 fill,
      Value.slice qn nn cn] (36 : Nat)))
   fun (v0 : Value) (w1 : World) =>
   ∃ (i2 : Int),
    ∃ (i3 : Int),
     v0 = Value.tuple #[Value.int IntKind.i64 i2, Value.int IntKind.i64 i3] ∧
      Keeps
        (w.alloc
         (Obj.cells
          #[Value.int IntKind.i64 k, Value.int IntKind.i64 id, Value.int IntKind.i64 at_, Value.string a, Value.string t, Value.slice qb nb cb, Value.slice qk nk ck, Value.int IntKind.i64 nm,
           Value.int IntKind.u8 fill, Value.slice qn nn cn] (36 : Nat)))
        w1 [w.heap.size] ∧
       (Known w1
         [(w.heap.size,
           [((0 : Nat), Value.int IntKind.i64 k), ((1 : Nat), Value.int IntKind.i64 id), ((2 : Nat), Value.int IntKind.i64 at_), ((3 : Nat), Value.string a), ((4 : Nat), Value.string t),
            ((5 : Nat), Value.slice qb nb cb), ((6 : Nat), Value.slice qk nk ck), ((7 : Nat), Value.int IntKind.i64 nm), ((8 : Nat), Value.int IntKind.u8 fill), ((9 : Nat), Value.slice qn nn cn)])] →
        Rets Tryz.prog (17 : Nat) #[Value.pointer m, Value.string a] w1 fun (v4 : Value) (w5 : World) =>
         ∃ (i6 : Int),
          ∃ (i7 : Int),
           v4 = Value.tuple #[Value.int IntKind.i64 i6, Value.int IntKind.i64 i7] ∧
            Keeps w1 w5 [w.heap.size] ∧
             bif i2 == i6 then
              Known w5
                [(w.heap.size,
                  [((0 : Nat), Value.int IntKind.i64 k), ((1 : Nat), Value.int IntKind.i64 id), ((2 : Nat), Value.int IntKind.i64 at_), ((3 : Nat), Value.string a), ((4 : Nat), Value.string t),
                   ((5 : Nat), Value.slice qb nb cb), ((6 : Nat), Value.slice qk nk ck), ((7 : Nat), Value.int IntKind.i64 nm), ((8 : Nat), Value.int IntKind.u8 fill),
                   ((9 : Nat), Value.slice qn nn cn)])] →
               R (Ending.returned (Value.bool (i3 == i7))) w5
             else
              Known w5
                [(w.heap.size,
                  [((0 : Nat), Value.int IntKind.i64 k), ((1 : Nat), Value.int IntKind.i64 id), ((2 : Nat), Value.int IntKind.i64 at_), ((3 : Nat), Value.string a), ((4 : Nat), Value.string t),
                   ((5 : Nat), Value.slice qb nb cb), ((6 : Nat), Value.slice qk nk ck), ((7 : Nat), Value.int IntKind.i64 nm), ((8 : Nat), Value.int IntKind.u8 fill),
                   ((9 : Nat), Value.slice qn nn cn)])] →
               R (Ending.returned (Value.bool false)) w5)
else
 bif k == (1 : Int) then
  Known
    (w.alloc
      (Obj.cells
       #[Value.int IntKind.i64 k, Value.int IntKind.i64 id, Value.int IntKind.i64 at_, Value.string a, Value.string t, Value.slice qb nb cb, Value.slice qk nk ck, Value.int IntKind.i64 nm,
        Value.int IntKind.u8 fill, Value.slice qn nn cn] (36 : Nat))).drew
    [(w.heap.size,
      [((0 : Nat), Value.int IntKind.i64 k), ((1 : Nat), Value.int IntKind.i64 id), ((2 : Nat), Value.int IntKind.i64 at_), ((3 : Nat), Value.string a), ((4 : Nat), Value.string t),
       ((5 : Nat), Value.slice qb nb cb), ((6 : Nat), Value.slice qk nk ck), ((7 : Nat), Value.int IntKind.i64 nm), ((8 : Nat), Value.int IntKind.u8 fill), ((9 : Nat), Value.slice qn nn cn)])] →
   Rets Tryz.prog (16 : Nat) #[Value.pointer p, Value.int IntKind.i64 id, Value.int IntKind.i64 at_, Value.slice qb nb cb]
    (w.alloc
      (Obj.cells
       #[Value.int IntKind.i64 k, Value.int IntKind.i64 id, Value.int IntKind.i64 at_, Value.string a, Value.string t, Value.slice qb nb cb, Value.slice qk nk ck, Value.int IntKind.i64 nm,
        Value.int IntKind.u8 fill, Value.slice qn nn cn] (36 : Nat))).drew
    fun (v8 : Value) (w9 : World) =>
    ∃ (i10 : Int),
     v8 = Value.int IntKind.i64 i10 ∧
      Keeps
        (w.alloc
          (Obj.cells
           #[Value.int IntKind.i64 k, Value.int IntKind.i64 id, Value.int IntKind.i64 at_, Value.string a, Value.string t, Value.slice qb nb cb, Value.slice qk nk ck, Value.int IntKind.i64 nm,
            Value.int IntKind.u8 fill, Value.slice qn nn cn] (36 : Nat))).drew
        w9 [w.heap.size] ∧
       w9.cell? { block := w.heap.size, off := (5 : Nat) } = some (Value.slice qb nb cb) ∧
        w9.cell? { block := w.heap.size, off := (2 : Nat) } = some (Value.int IntKind.i64 at_) ∧
         w9.cell? { block := w.heap.size, off := (1 : Nat) } = some (Value.int IntKind.i64 id) ∧
          (Known w9
            [(w.heap.size,
              [((0 : Nat), Value.int IntKind.i64 k), ((1 : Nat), Value.int IntKind.i64 id), ((2 : Nat), Value.int IntKind.i64 at_), ((3 : Nat), Value.string a), ((4 : Nat), Value.string t),
               ((5 : Nat), Value.slice qb nb cb), ((6 : Nat), Value.slice qk nk ck), ((7 : Nat), Value.int IntKind.i64 nm), ((8 : Nat), Value.int IntKind.u8 fill), ((9 : Nat), Value.slice qn nn cn)])] →
           Rets Tryz.prog (18 : Nat) #[Value.pointer m, Value.int IntKind.i64 id, Value.int IntKind.i64 at_, Value.slice qb nb cb] w9 fun (v11 : Value) (w12 : World) =>
            ∃ (i13 : Int),
             v11 = Value.int IntKind.i64 i13 ∧
              Keeps w9 w12 [w.heap.size] ∧
               (Known w12
                 [(w.heap.size,
                   [((0 : Nat), Value.int IntKind.i64 k), ((1 : Nat), Value.int IntKind.i64 id), ((2 : Nat), Value.int IntKind.i64 at_), ((3 : Nat), Value.string a), ((4 : Nat), Value.string t),
                    ((5 : Nat), Value.slice qb nb cb), ((6 : Nat), Value.slice qk nk ck), ((7 : Nat), Value.int IntKind.i64 nm), ((8 : Nat), Value.int IntKind.u8 fill),
                    ((9 : Nat), Value.slice qn nn cn)])] →
                R (Ending.returned (Value.bool (i10 == i13))) w12))
 else
  bif k == (2 : Int) then
   Known
     (w.alloc
       (Obj.cells
        #[Value.int IntKind.i64 k, Value.int IntKind.i64 id, Value.int IntKind.i64 at_, Value.string a, Value.string t, Value.slice qb nb cb, Value.slice qk nk ck, Value.int IntKind.i64 nm,
         Value.int IntKind.u8 fill, Value.slice qn nn cn] (36 : Nat))).drew
     [(w.heap.size,
       [((0 : Nat), Value.int IntKind.i64 k), ((1 : Nat), Value.int IntKind.i64 id), ((2 : Nat), Value.int IntKind.i64 at_), ((3 : Nat), Value.string a), ((4 : Nat), Value.string t),
        ((5 : Nat), Value.slice qb nb cb), ((6 : Nat), Value.slice qk nk ck), ((7 : Nat), Value.int IntKind.i64 nm), ((8 : Nat), Value.int IntKind.u8 fill), ((9 : Nat), Value.slice qn nn cn)])] →
    Rets Tryz.prog (19 : Nat) #[Value.pointer p, Value.int IntKind.i64 id]
     (w.alloc
       (Obj.cells
        #[Value.int IntKind.i64 k, Value.int IntKind.i64 id, Value.int IntKind.i64 at_, Value.string a, Value.string t, Value.slice qb nb cb, Value.slice qk nk ck, Value.int IntKind.i64 nm,
         Value.int IntKind.u8 fill, Value.slice qn nn cn] (36 : Nat))).drew
     fun (v14 : Value) (w15 : World) =>
     ∃ (i16 : Int),
      v14 = Value.int IntKind.i64 i16 ∧
       Keeps
         (w.alloc
           (Obj.cells
            #[Value.int IntKind.i64 k, Value.int IntKind.i64 id, Value.int IntKind.i64 at_, Value.string a, Value.string t, Value.slice qb nb cb, Value.slice qk nk ck, Value.int IntKind.i64 nm,
             Value.int IntKind.u8 fill, Value.slice qn nn cn] (36 : Nat))).drew
         w15 [w.heap.size] ∧
        w15.cell? { block := w.heap.size, off := (1 : Nat) } = some (Value.int IntKind.i64 id) ∧
         (Known w15
           [(w.heap.size,
             [((0 : Nat), Value.int IntKind.i64 k), ((1 : Nat), Value.int IntKind.i64 id), ((2 : Nat), Value.int IntKind.i64 at_), ((3 : Nat), Value.string a), ((4 : Nat), Value.string t),
              ((5 : Nat), Value.slice qb nb cb), ((6 : Nat), Value.slice qk nk ck), ((7 : Nat), Value.int IntKind.i64 nm), ((8 : Nat), Value.int IntKind.u8 fill), ((9 : Nat), Value.slice qn nn cn)])] →
          Rets Tryz.prog (20 : Nat) #[Value.pointer m, Value.int IntKind.i64 id] w15 fun (v17 : Value) (w18 : World) =>
           ∃ (i19 : Int),
            v17 = Value.int IntKind.i64 i19 ∧
             Keeps w15 w18 [w.heap.size] ∧
              (Known w18
                [(w.heap.size,
                  [((0 : Nat), Value.int IntKind.i64 k), ((1 : Nat), Value.int IntKind.i64 id), ((2 : Nat), Value.int IntKind.i64 at_), ((3 : Nat), Value.string a), ((4 : Nat), Value.string t),
                   ((5 : Nat), Value.slice qb nb cb), ((6 : Nat), Value.slice qk nk ck), ((7 : Nat), Value.int IntKind.i64 nm), ((8 : Nat), Value.int IntKind.u8 fill),
                   ((9 : Nat), Value.slice qn nn cn)])] →
               R (Ending.returned (Value.bool (i16 == i19))) w18))
  else
   bif k == (3 : Int) then
    Known
      (w.alloc
       (Obj.cells
        #[Value.int IntKind.i64 k, Value.int IntKind.i64 id, Value.int IntKind.i64 at_, Value.string a, Value.string t, Value.slice qb nb cb, Value.slice qk nk ck, Value.int IntKind.i64 nm,
         Value.int IntKind.u8 fill, Value.slice qn nn cn] (36 : Nat)))
      [(w.heap.size,
        [((0 : Nat), Value.int IntKind.i64 k), ((1 : Nat), Value.int IntKind.i64 id), ((2 : Nat), Value.int IntKind.i64 at_), ((3 : Nat), Value.string a), ((4 : Nat), Value.string t),
         ((5 : Nat), Value.slice qb nb cb), ((6 : Nat), Value.slice qk nk ck), ((7 : Nat), Value.int IntKind.i64 nm), ((8 : Nat), Value.int IntKind.u8 fill), ((9 : Nat), Value.slice qn nn cn)])] →
     Rets Tryz.prog (21 : Nat) #[Value.pointer p]
      (w.alloc
       (Obj.cells
        #[Value.int IntKind.i64 k, Value.int IntKind.i64 id, Value.int IntKind.i64 at_, Value.string a, Value.string t, Value.slice qb nb cb, Value.slice qk nk ck, Value.int IntKind.i64 nm,
         Value.int IntKind.u8 fill, Value.slice qn nn cn] (36 : Nat)))
      fun (v20 : Value) (w21 : World) =>
      ∃ (i22 : Int),
       v20 = Value.int IntKind.i64 i22 ∧
        Keeps
          (w.alloc
           (Obj.cells
            #[Value.int IntKind.i64 k, Value.int IntKind.i64 id, Value.int IntKind.i64 at_, Value.string a, Value.string t, Value.slice qb nb cb, Value.slice qk nk ck, Value.int IntKind.i64 nm,
             Value.int IntKind.u8 fill, Value.slice qn nn cn] (36 : Nat)))
          w21 [w.heap.size] ∧
         (Known w21
           [(w.heap.size,
             [((0 : Nat), Value.int IntKind.i64 k), ((1 : Nat), Value.int IntKind.i64 id), ((2 : Nat), Value.int IntKind.i64 at_), ((3 : Nat), Value.string a), ((4 : Nat), Value.string t),
              ((5 : Nat), Value.slice qb nb cb), ((6 : Nat), Value.slice qk nk ck), ((7 : Nat), Value.int IntKind.i64 nm), ((8 : Nat), Value.int IntKind.u8 fill), ((9 : Nat), Value.slice qn nn cn)])] →
          Rets Tryz.prog (22 : Nat) #[Value.pointer m] w21 fun (v23 : Value) (w24 : World) =>
           ∃ (i25 : Int),
            v23 = Value.int IntKind.i64 i25 ∧
             Keeps w21 w24 [w.heap.size] ∧
              (Known w24
                [(w.heap.size,
                  [((0 : Nat), Value.int IntKind.i64 k), ((1 : Nat), Value.int IntKind.i64 id), ((2 : Nat), Value.int IntKind.i64 at_), ((3 : Nat), Value.string a), ((4 : Nat), Value.string t),
                   ((5 : Nat), Value.slice qb nb cb), ((6 : Nat), Value.slice qk nk ck), ((7 : Nat), Value.int IntKind.i64 nm), ((8 : Nat), Value.int IntKind.u8 fill),
                   ((9 : Nat), Value.slice qn nn cn)])] →
               R (Ending.returned (Value.bool (i22 == i25))) w24))
   else
    bif k == (4 : Int) then
     Known
       (w.alloc
         (Obj.cells
          #[Value.int IntKind.i64 k, Value.int IntKind.i64 id, Value.int IntKind.i64 at_, Value.string a, Value.string t, Value.slice qb nb cb, Value.slice qk nk ck, Value.int IntKind.i64 nm,
           Value.int IntKind.u8 fill, Value.slice qn nn cn] (36 : Nat))).drew
       [(w.heap.size,
         [((0 : Nat), Value.int IntKind.i64 k), ((1 : Nat), Value.int IntKind.i64 id), ((2 : Nat), Value.int IntKind.i64 at_), ((3 : Nat), Value.string a), ((4 : Nat), Value.string t),
          ((5 : Nat), Value.slice qb nb cb), ((6 : Nat), Value.slice qk nk ck), ((7 : Nat), Value.int IntKind.i64 nm), ((8 : Nat), Value.int IntKind.u8 fill), ((9 : Nat), Value.slice qn nn cn)])] →
      Rets Tryz.prog (23 : Nat) #[Value.pointer p, Value.string a, Value.string t]
       (w.alloc
         (Obj.cells
          #[Value.int IntKind.i64 k, Value.int IntKind.i64 id, Value.int IntKind.i64 at_, Value.string a, Value.string t, Value.slice qb nb cb, Value.slice qk nk ck, Value.int IntKind.i64 nm,
           Value.int IntKind.u8 fill, Value.slice qn nn cn] (36 : Nat))).drew
       fun (v26 : Value) (w27 : World) =>
       ∃ (i28 : Int),
        v26 = Value.int IntKind.i64 i28 ∧
         Keeps
           (w.alloc
             (Obj.cells
              #[Value.int IntKind.i64 k, Value.int IntKind.i64 id, Value.int IntKind.i64 at_, Value.string a, Value.string t, Value.slice qb nb cb, Value.slice qk nk ck, Value.int IntKind.i64 nm,
               Value.int IntKind.u8 fill, Value.slice qn nn cn] (36 : Nat))).drew
           w27 [w.heap.size] ∧
          w27.cell? { block := w.heap.size, off := (4 : Nat) } = some (Value.string t) ∧
           w27.cell? { block := w.heap.size, off := (3 : Nat) } = some (Value.string a) ∧
            (Known w27
              [(w.heap.size,
                [((0 : Nat), Value.int IntKind.i64 k), ((1 : Nat), Value.int IntKind.i64 id), ((2 : Nat), Value.int IntKind.i64 at_), ((3 : Nat), Value.string a), ((4 : Nat), Value.string t),
                 ((5 : Nat), Value.slice qb nb cb), ((6 : Nat), Value.slice qk nk ck), ((7 : Nat), Value.int IntKind.i64 nm), ((8 : Nat), Value.int IntKind.u8 fill),
                 ((9 : Nat), Value.slice qn nn cn)])] →
             Rets Tryz.prog (24 : Nat) #[Value.pointer m, Value.string a, Value.string t] w27 fun (v29 : Value) (w30 : World) =>
              ∃ (i31 : Int),
               v29 = Value.int IntKind.i64 i31 ∧
                Keeps w27 w30 [w.heap.size] ∧
                 (Known w30
                   [(w.heap.size,
                     [((0 : Nat), Value.int IntKind.i64 k), ((1 : Nat), Value.int IntKind.i64 id), ((2 : Nat), Value.int IntKind.i64 at_), ((3 : Nat), Value.string a), ((4 : Nat), Value.string t),
                      ((5 : Nat), Value.slice qb nb cb), ((6 : Nat), Value.slice qk nk ck), ((7 : Nat), Value.int IntKind.i64 nm), ((8 : Nat), Value.int IntKind.u8 fill),
                      ((9 : Nat), Value.slice qn nn cn)])] →
                  R (Ending.returned (Value.bool (i28 == i31))) w30))
    else
     bif k == (5 : Int) then
      Known
        (w.alloc
          (Obj.cells
           #[Value.int IntKind.i64 k, Value.int IntKind.i64 id, Value.int IntKind.i64 at_, Value.string a, Value.string t, Value.slice qb nb cb, Value.slice qk nk ck, Value.int IntKind.i64 nm,
            Value.int IntKind.u8 fill, Value.slice qn nn cn] (36 : Nat))).drew
        [(w.heap.size,
          [((0 : Nat), Value.int IntKind.i64 k), ((1 : Nat), Value.int IntKind.i64 id), ((2 : Nat), Value.int IntKind.i64 at_), ((3 : Nat), Value.string a), ((4 : Nat), Value.string t),
           ((5 : Nat), Value.slice qb nb cb), ((6 : Nat), Value.slice qk nk ck), ((7 : Nat), Value.int IntKind.i64 nm), ((8 : Nat), Value.int IntKind.u8 fill), ((9 : Nat), Value.slice qn nn cn)])] →
       Rets Tryz.prog (25 : Nat) #[Value.pointer p, Value.string a]
        (w.alloc
          (Obj.cells
           #[Value.int IntKind.i64 k, Value.int IntKind.i64 id, Value.int IntKind.i64 at_, Value.string a, Value.string t, Value.slice qb nb cb, Value.slice qk nk ck, Value.int IntKind.i64 nm,
            Value.int IntKind.u8 fill, Value.slice qn nn cn] (36 : Nat))).drew
        fun (v32 : Value) (w33 : World) =>
        ∃ (i34 : Int),
         v32 = Value.int IntKind.i64 i34 ∧
          Keeps
            (w.alloc
              (Obj.cells
               #[Value.int IntKind.i64 k, Value.int IntKind.i64 id, Value.int IntKind.i64 at_, Value.string a, Value.string t, Value.slice qb nb cb, Value.slice qk nk ck, Value.int IntKind.i64 nm,
                Value.int IntKind.u8 fill, Value.slice qn nn cn] (36 : Nat))).drew
            w33 [w.heap.size] ∧
           w33.cell? { block := w.heap.size, off := (3 : Nat) } = some (Value.string a) ∧
            (Known w33
              [(w.heap.size,
                [((0 : Nat), Value.int IntKind.i64 k), ((1 : Nat), Value.int IntKind.i64 id), ((2 : Nat), Value.int IntKind.i64 at_), ((3 : Nat), Value.string a), ((4 : Nat), Value.string t),
                 ((5 : Nat), Value.slice qb nb cb), ((6 : Nat), Value.slice qk nk ck), ((7 : Nat), Value.int IntKind.i64 nm), ((8 : Nat), Value.int IntKind.u8 fill),
                 ((9 : Nat), Value.slice qn nn cn)])] →
             Rets Tryz.prog (26 : Nat) #[Value.pointer m, Value.string a] w33 fun (v35 : Value) (w36 : World) =>
              ∃ (i37 : Int),
               v35 = Value.int IntKind.i64 i37 ∧
                Keeps w33 w36 [w.heap.size] ∧
                 (Known w36
                   [(w.heap.size,
                     [((0 : Nat), Value.int IntKind.i64 k), ((1 : Nat), Value.int IntKind.i64 id), ((2 : Nat), Value.int IntKind.i64 at_), ((3 : Nat), Value.string a), ((4 : Nat), Value.string t),
                      ((5 : Nat), Value.slice qb nb cb), ((6 : Nat), Value.slice qk nk ck), ((7 : Nat), Value.int IntKind.i64 nm), ((8 : Nat), Value.int IntKind.u8 fill),
                      ((9 : Nat), Value.slice qn nn cn)])] →
                  R (Ending.returned (Value.bool (i34 == i37))) w36))
     else
      bif k == (6 : Int) then
       Known
         (w.alloc
          (Obj.cells
           #[Value.int IntKind.i64 k, Value.int IntKind.i64 id, Value.int IntKind.i64 at_, Value.string a, Value.string t, Value.slice qb nb cb, Value.slice qk nk ck, Value.int IntKind.i64 nm,
            Value.int IntKind.u8 fill, Value.slice qn nn cn] (36 : Nat)))
         [(w.heap.size,
           [((0 : Nat), Value.int IntKind.i64 k), ((1 : Nat), Value.int IntKind.i64 id), ((2 : Nat), Value.int IntKind.i64 at_), ((3 : Nat), Value.string a), ((4 : Nat), Value.string t),
            ((5 : Nat), Value.slice qb nb cb), ((6 : Nat), Value.slice qk nk ck), ((7 : Nat), Value.int IntKind.i64 nm), ((8 : Nat), Value.int IntKind.u8 fill), ((9 : Nat), Value.slice qn nn cn)])] →
        Rets Tryz.prog (27 : Nat) #[Value.pointer p, Value.agg #[Value.slice qk nk ck, Value.int IntKind.i64 nm, Value.int IntKind.u8 fill]]
         (w.alloc
          (Obj.cells
           #[Value.int IntKind.i64 k, Value.int IntKind.i64 id, Value.int IntKind.i64 at_, Value.string a, Value.string t, Value.slice qb nb cb, Value.slice qk nk ck, Value.int IntKind.i64 nm,
            Value.int IntKind.u8 fill, Value.slice qn nn cn] (36 : Nat)))
         fun (v38 : Value) (w39 : World) =>
         v38 = Value.tuple #[] ∧
          Keeps
            (w.alloc
             (Obj.cells
              #[Value.int IntKind.i64 k, Value.int IntKind.i64 id, Value.int IntKind.i64 at_, Value.string a, Value.string t, Value.slice qb nb cb, Value.slice qk nk ck, Value.int IntKind.i64 nm,
               Value.int IntKind.u8 fill, Value.slice qn nn cn] (36 : Nat)))
            w39 [w.heap.size] ∧
           (Known w39
             [(w.heap.size,
               [((0 : Nat), Value.int IntKind.i64 k), ((1 : Nat), Value.int IntKind.i64 id), ((2 : Nat), Value.int IntKind.i64 at_), ((3 : Nat), Value.string a), ((4 : Nat), Value.string t),
                ((5 : Nat), Value.slice qb nb cb), ((6 : Nat), Value.slice qk nk ck), ((7 : Nat), Value.int IntKind.i64 nm), ((8 : Nat), Value.int IntKind.u8 fill), ((9 : Nat), Value.slice qn nn cn)])] →
            Rets Tryz.prog (28 : Nat) #[Value.pointer m, Value.agg #[Value.slice qk nk ck, Value.int IntKind.i64 nm, Value.int IntKind.u8 fill]] w39 fun (v40 : Value) (w41 : World) =>
             v40 = Value.tuple #[] ∧
              Keeps w39 w41 [w.heap.size] ∧
               (Known w41
                 [(w.heap.size,
                   [((0 : Nat), Value.int IntKind.i64 k), ((1 : Nat), Value.int IntKind.i64 id), ((2 : Nat), Value.int IntKind.i64 at_), ((3 : Nat), Value.string a), ((4 : Nat), Value.string t),
                    ((5 : Nat), Value.slice qb nb cb), ((6 : Nat), Value.slice qk nk ck), ((7 : Nat), Value.int IntKind.i64 nm), ((8 : Nat), Value.int IntKind.u8 fill),
                    ((9 : Nat), Value.slice qn nn cn)])] →
                R (Ending.returned (Value.bool true)) w41))
      else
       Known
         (w.alloc
          (Obj.cells
           #[Value.int IntKind.i64 k, Value.int IntKind.i64 id, Value.int IntKind.i64 at_, Value.string a, Value.string t, Value.slice qb nb cb, Value.slice qk nk ck, Value.int IntKind.i64 nm,
            Value.int IntKind.u8 fill, Value.slice qn nn cn] (36 : Nat)))
         [(w.heap.size,
           [((0 : Nat), Value.int IntKind.i64 k), ((1 : Nat), Value.int IntKind.i64 id), ((2 : Nat), Value.int IntKind.i64 at_), ((3 : Nat), Value.string a), ((4 : Nat), Value.string t),
            ((5 : Nat), Value.slice qb nb cb), ((6 : Nat), Value.slice qk nk ck), ((7 : Nat), Value.int IntKind.i64 nm), ((8 : Nat), Value.int IntKind.u8 fill), ((9 : Nat), Value.slice qn nn cn)])] →
        Rets Tryz.prog (13 : Nat) #[Value.pointer p, Value.slice qn nn cn]
         (w.alloc
          (Obj.cells
           #[Value.int IntKind.i64 k, Value.int IntKind.i64 id, Value.int IntKind.i64 at_, Value.string a, Value.string t, Value.slice qb nb cb, Value.slice qk nk ck, Value.int IntKind.i64 nm,
            Value.int IntKind.u8 fill, Value.slice qn nn cn] (36 : Nat)))
         fun (v42 : Value) (w43 : World) =>
         v42 = Value.tuple #[] ∧
          Keeps
            (w.alloc
             (Obj.cells
              #[Value.int IntKind.i64 k, Value.int IntKind.i64 id, Value.int IntKind.i64 at_, Value.string a, Value.string t, Value.slice qb nb cb, Value.slice qk nk ck, Value.int IntKind.i64 nm,
               Value.int IntKind.u8 fill, Value.slice qn nn cn] (36 : Nat)))
            w43 [w.heap.size] ∧
           SX.Ptr m fun (a44 : Addr) =>
            (∃ (v45 : Value), w43.cell? ((a44.add (6 : Nat)).add (0 : Nat)) = some v45) ∧
             w43.frozen? ((a44.add (6 : Nat)).add (0 : Nat)) = false ∧
              Apart ((a44.add (6 : Nat)).add (0 : Nat)) w.heap.size [(0 : Nat), (1 : Nat), (2 : Nat), (3 : Nat), (4 : Nat), (5 : Nat), (6 : Nat), (7 : Nat), (8 : Nat), (9 : Nat)] ∧
               (Known (w43.setCell ((a44.add (6 : Nat)).add (0 : Nat)) (Value.slice qn nn cn))
                 [(w.heap.size,
                   [((0 : Nat), Value.int IntKind.i64 k), ((1 : Nat), Value.int IntKind.i64 id), ((2 : Nat), Value.int IntKind.i64 at_), ((3 : Nat), Value.string a), ((4 : Nat), Value.string t),
                    ((5 : Nat), Value.slice qb nb cb), ((6 : Nat), Value.slice qk nk ck), ((7 : Nat), Value.int IntKind.i64 nm), ((8 : Nat), Value.int IntKind.u8 fill),
                    ((9 : Nat), Value.slice qn nn cn)])] →
                R (Ending.returned (Value.bool true)) (w43.setCell ((a44.add (6 : Nat)).add (0 : Nat)) (Value.slice qn nn cn)))
theorem vcTryz9 (p m : Option Addr) (k id at_ : Int) (a t : ByteArray) (qb : Option Addr) (nb cb : Nat) (qk : Option Addr) (nk ck : Nat) (nm fill : Int) (qn : Option Addr) (nn cn : Nat) (w : World) (R : Ending → World → Prop) : SX.vcFn Tryz.prog [] Tryz.f9 [.v (.pointer p), .v (.pointer m), .v (.agg #[.int .i64 k, .int .i64 id, .int .i64 at_, .string a, .string t, .slice qb nb cb, .slice qk nk ck, .int .i64 nm, .int .u8 fill, .slice qn nn cn])] [] w R = VCTryz9 p m k id at_ a t qb nb cb qk nk ck nm fill qn nn cn w R := by kernel_rfl
end Go.Proofs.YtlgkcbdpaffigaaGreat

namespace Go.Proofs.YtlgkcbdpaffigaaGreat
open Go Go.SX Go.Proofs
set_option maxRecDepth 100000
set_option linter.unusedVariables false
set_option linter.unusedSimpArgs false
/-- Neighbours have changed; a directory has not. -/
theorem RD.nb {O : Nat → Prop} {w w' : World} {b o p n : Nat} {H : List (List Ent)} {N : List Ent} (h : RD w O b o H N) (k : Kp (one_ b) w w') (nb : Nb b p n w w') (hd : o + 2 ≤ p ∨ p + n ≤ o) : RD w' O b o H N := by
  obtain ⟨qn, cn, vp, own, ps, h1, h2, h3, h4, h5, h6, h7⟩ := h
  refine ⟨qn, cn, vp, fun i => own i ∧ i < w.heap.size, ps, h1.nb k nb (by simpa using hd), h2, fun i hi => h3 i hi.1, h4.kp entC_len (by omega) k fun i hl hi => ⟨hi.2.1, hi.1, hi.2.1, fun hh => hi.2.2 hh.1⟩, h5, ?_, fun p hp => (h7 p hp).kp entC_len (by omega) k fun i hl hi => ⟨hi.2.1, hi.1, hi.2.1, fun hh => hi.2.2 hh.1⟩⟩
  exact (h6.mono (own' := fun i => own i ∧ i < w.heap.size) fun i hi hl => ⟨hi, hl⟩).kp k fun g n cap _ hg e => (h3 g hg.1).2 e
/-- The document's files by names; what is refused lies below E. -/
def FRM (E : Nat) (w : World) (O : Nat → Prop) (b : Nat) (Ds : List Nat) (H : List (List Ent)) (N : List Ent) (cap k r : Int) (rl : List Int) : Prop :=
  ∃ (dv : Value) (own Od : Nat → Prop) (rq : Option Addr) (rc : Nat), Cs w b 0 [dv] ∧ RD w Od b 1 H N ∧ Cs w b 3 [.int .i64 cap, .int .i64 k, .int .i64 r, .slice rq rl.length rc] ∧ OwnRow w own 72 1 dv Ds.length (flatC ptC Ds) ∧ RowsAt w 1 intC rq rl ∧ (0 < rl.length → ∀ a, rq = some a → a.block < E) ∧ (∀ i, own i → O i ∧ ¬ Od i) ∧ (∀ i, Od i → O i) ∧ ∀ i, O i → E ≤ i
variable {E : Nat} {w w' : World} {O O' : Nat → Prop} {b : Nat} {Ds : List Nat} {H : List (List Ent)} {N : List Ent} {cap k r : Int} {rl : List Int}
theorem FRM.lt (h : FRM E w O b Ds H N cap k r rl) : b < w.heap.size ∧ O b ∧ E ≤ b := by
  obtain ⟨dv, own, Od, rq, rc, h1, h2, h3, h4, h5, h6, h7, h8, h9⟩ := h
  exact ⟨h2.lt.1, h8 _ h2.lt.2, h9 _ (h8 _ h2.lt.2)⟩
theorem FRM.kp {S' : Nat → Prop} (h : FRM E w O b Ds H N cap k r rl) (kk : Kp S' w w') (hE : ∀ i, S' i → E ≤ i) (hs : ∀ i, i < w.heap.size → O i → ¬ S' i ∧ O' i) (hO' : ∀ i, O' i → E ≤ i) : FRM E w' O' b Ds H N cap k r rl := by
  obtain ⟨dv, own, Od, rq, rc, h1, h2, h3, h4, h5, h6, h7, h8, h9⟩ := h
  have hb := h2.lt
  have sb := (hs b hb.1 (h8 _ hb.2)).1
  refine ⟨dv, fun i => own i ∧ i < w.heap.size, fun i => Od i ∧ i < w.heap.size, rq, rc, h1.kp kk sb, h2.kp kk fun i hl hi => ⟨(hs i hl (h8 i hi)).1, hi, hl⟩, h3.kp kk sb, ?_, h5.kp kk fun h0 a e hh => by have := h6 h0 a e; have := hE _ hh; omega, h6, fun i hi => ⟨(hs i hi.2 (h7 i hi.1).1).2, fun hh => (h7 i hi.1).2 hh.1⟩, fun i hi => (hs i hi.2 (h8 i hi.1)).2, hO'⟩
  exact (h4.mono (own' := fun i => own i ∧ i < w.heap.size) fun i hi hl => ⟨hi, hl⟩).kp kk fun g n cap _ hg => (hs g hg.2 (h7 g hg.1).1).1
theorem FRM.disks (h : FRM E w O b Ds H N cap k r rl) : ∃ q c, w.cell? ⟨b, 0, none⟩ = some (.slice q Ds.length c) ∧ RowsAt w 1 ptC q Ds ∧ (0 < Ds.length → ∀ a, q = some a → O a.block) := by
  obtain ⟨dv, own, Od, rq, rc, h1, h2, h3, h4, h5, h6, h7, h8, h9⟩ := h
  obtain ⟨q, c, rfl⟩ := h4.slice
  have := rwIn_of (Q := O) ptC_len (by omega) h4 fun i hi => (h7 i hi).1
  exact ⟨q, c, h1.get 0 rfl, this.1, this.2⟩
theorem FRM.set {j : Nat} (hj : j < 3) (h : FRM E w O b Ds H N cap k r rl) {cap' k' r' u : Int} (hv : ([.int .i64 cap', .int .i64 k', .int .i64 r'] : List Value) = ([.int .i64 cap, .int .i64 k, .int .i64 r] : List Value).set j (.int .i64 u)) : FRM E (w.setCell ⟨b, 3 + j, none⟩ (.int .i64 u)) O b Ds H N cap' k' r' rl ∧ Kp (one_ b) w (w.setCell ⟨b, 3 + j, none⟩ (.int .i64 u)) ∧ (∃ v, w.cell? ⟨b, 3 + j, none⟩ = some v) ∧ w.frozen? ⟨b, 3 + j, none⟩ = false := by
  have hlt := h.lt
  obtain ⟨dv, own, Od, rq, rc, h1, h2, h3, h4, h5, h6, h7, h8, h9⟩ := h
  have kk : Kp (one_ b) w (w.setCell ⟨b, 3 + j, none⟩ (.int .i64 u)) := kp_set _ _ _ _
  have nb : Nb b 3 4 w (w.setCell ⟨b, 3 + j, none⟩ (.int .i64 u)) := Nb.set w (b := b) (o := 3) (i := j) (by omega) _
  have cc := h3.set j (.int .i64 u)
  have e : ([.int .i64 cap, .int .i64 k, .int .i64 r, .slice rq rl.length rc] : List Value).set j (.int .i64 u) = [.int .i64 cap', .int .i64 k', .int .i64 r', .slice rq rl.length rc] := by
    have : ([.int .i64 cap, .int .i64 k, .int .i64 r, .slice rq rl.length rc] : List Value) = [.int .i64 cap, .int .i64 k, .int .i64 r] ++ [.slice rq rl.length rc] := rfl
    rw [this, List.set_append_left _ _ (by simpa using hj), ← hv]
    rfl
  rw [e] at cc
  exact ⟨⟨dv, own, Od, rq, rc, h1.nb kk nb (.inl (by simp)), h2.nb kk nb (.inl (by omega)), cc, h4.kp kk (fun g n cap _ hg e => by have e : g = b := e; rw [e] at hg; exact (h7 b hg).2 h2.lt.2), h5.kp kk (fun h0 a e hh => by have := h6 h0 a e; have hh : a.block = b := hh; omega), h6, h7, h8, h9⟩, kk, h3.slot j (by simp; omega)⟩
/-- A call is counted. -/
theorem c99 (h : FRM E w O b Ds H N cap k r rl) (hk : 0 ≤ k ∧ k ≤ 1000000) (hr : 0 ≤ r ∧ r ≤ 1000000) (hl : rl.length ≤ 1000000) : Rets Tryz.prog 45 #[ptA b 0] w fun v w' => v = .bool (decide (refE rl k = 0)) ∧ FRM E w' O b Ds H N cap (k + 1) (refN rl k r) rl ∧ Kp (one_ b) w w' := by
  refine ent [_] Tryz.func45 ((vcTryz45 _ w _).mpr ?_)
  unfold VCTryz45
  obtain ⟨h1, k1, s1, s2⟩ := h.set (j := 1) (by omega) (cap' := cap) (k' := k + 1) (r' := r) (u := k + 1) rfl
  obtain ⟨dv, own, Od, rq, rc, g1, g2, g3, g4, g5, g6, g7, g8, g9⟩ := h
  simp only [ptr_some, ad3, Nat.zero_add, Nat.add_zero]
  refine ⟨_, g3.get 1 rfl, wr64 (by omega) ⟨s1, s2, ?_⟩⟩
  have r1 : RowsAt (w.setCell ⟨b, 4, none⟩ (.int .i64 (k + 1))) 1 intC rq rl := g5.kp k1 fun h0 a e hh => by have := g6 h0 a e; have := g9 _ (g8 _ g2.lt.2); have hh : a.block = b := hh; omega
  have c1 : Cs (w.setCell ⟨b, 4, none⟩ (.int .i64 (k + 1))) b 3 [.int .i64 cap, .int .i64 (k + 1), .int .i64 r, .slice rq rl.length rc] := g3.set 1 _
  have h1 : FRM E (w.setCell ⟨b, 4, none⟩ (.int .i64 (k + 1))) O b Ds H N cap (k + 1) r rl := h1
  have k1 : Kp (one_ b) w (w.setCell ⟨b, 4, none⟩ (.int .i64 (k + 1))) := k1
  generalize w.setCell ⟨b, 4, none⟩ (.int .i64 (k + 1)) = w1 at *
  have h1d : ∀ {W : World}, Kp none_ w1 W → FRM E W O b Ds H N cap (k + 1) r rl := fun kW => h1.kp kW (fun i hi => hi.elim) (fun i _ hi => ⟨id, hi⟩) g9
  refine ⟨fun i w' => ∃ j : Nat, i = j ∧ j ≤ rl.length ∧ Kp none_ w1 w' ∧ ∀ x (hx : x < rl.length), x < j → rl[x] ≠ k + 1, fun i _ => (rl.length - i).toNat, ⟨0, rfl, by omega, Kp.refl _ _, fun x hx h => by omega⟩, ?_⟩
  rintro i w2 ⟨j, rfl, hj, k2, hn⟩
  have cc := c1.kp0 k2
  refine ⟨_, _, _, cc.get 3 rfl, bif_dec (fun hi => ?_) (fun hi => ?_)⟩
  · have hjl : j < rl.length := by omega
    have k3 := k2.drew
    have cd := c1.kp0 k3
    refine ⟨_, _, _, cd.get 3 rfl, ⟨by omega, hi⟩, (r1.kp0 k3).get hjl fun a ea hc => ⟨_, (cell_add0 _ _).symm.trans (hc 0 _ rfl), _, cd.get 1 rfl, bif_eq (fun he => ?_) (fun he => ?_)⟩⟩
    · have hm : k + 1 ∈ rl := by rw [← he]; exact List.getElem_mem hjl
      obtain ⟨x1, x2, x3, x4⟩ := (h1d k3).set (j := 2) (by omega) (cap' := cap) (k' := k + 1) (r' := r + 1) (u := r + 1) rfl
      refine ⟨_, cd.get 2 rfl, wr64 (by omega) ⟨x3, x4, _, rfl, ?_, ?_, k1.trans (k3.wide.trans x2)⟩⟩
      · unfold refE; rw [if_pos hm]; rfl
      · unfold refN; rw [if_pos hm]; exact x1
    · refine wr64 (by omega) ⟨⟨j + 1, by omega, by omega, k3, fun x hx hxj => ?_⟩, by first | omega | (dsimp only; omega)⟩
      by_cases ee : x = j
      · subst ee; exact he
      · exact hn x hx (by omega)
  · have hm : k + 1 ∉ rl := fun hm => by
      obtain ⟨x, hx, e⟩ := List.getElem_of_mem hm
      exact hn x hx (by omega) e
    refine ⟨_, rfl, ?_, ?_, k1.trans k2.wide⟩
    · unfold refE; rw [if_neg hm]; rfl
    · unfold refN; rw [if_neg hm]; exact h1d k2
theorem c100 (h : FRM E w O b Ds H N cap k r rl) (i : Int) : Rets Tryz.prog 32 #[ptA b 0, .int .i64 i] w fun v w' => w' = w ∧ v = .bool (decide (0 ≤ i ∧ i < Ds.length)) := by
  refine ent [_, _] Tryz.func32 ((vcTryz32 _ _ w _).mpr ?_)
  unfold VCTryz32
  obtain ⟨q, c, e0, _, _⟩ := h.disks
  simp only [ptr_some, ad3, Nat.zero_add, Nat.add_zero]
  refine bif_dec (fun hi => ⟨_, _, _, e0, _, rfl, trivial, ?_⟩) (fun hi => ⟨_, rfl, trivial, ?_⟩)
  · congr 1
    rw [decide_eq_decide]
    omega
  · congr 1
    symm
    rw [decide_eq_false_iff_not]
    omega
end Go.Proofs.YtlgkcbdpaffigaaGreat

namespace Go.Proofs.YtlgkcbdpaffigaaGreat
open Go Go.SX Go.Proofs
set_option maxRecDepth 100000
set_option linter.unusedVariables false
set_option linter.unusedSimpArgs false
def FRD (E : Nat) (w : World) (O : Nat → Prop) (b : Nat) (f : Fst) (H : List (List Ent)) : Prop :=
  ∃ (Ds : List Nat) (Of : Nat → Prop), FRM E w Of b Ds H (lastE f.S f.ws) f.cap f.k f.r f.rl ∧ Dks RDsk w (fun x => O x ∧ ¬ Of x) Ds f.ds ∧ (∀ x, Of x → O x) ∧ (∀ x, O x → E ≤ x) ∧ Hst f.S f.ws H (lastE f.S f.ws)
variable {E : Nat} {w w' : World} {O O' : Nat → Prop} {b : Nat} {f : Fst} {H : List (List Ent)}
theorem FRD.kp {S' : Nat → Prop} (h : FRD E w O b f H) (k : Kp S' w w') (hE : ∀ i, S' i → E ≤ i) (hs : ∀ x, x < w.heap.size → O x → ¬ S' x ∧ O' x) (hO' : ∀ x, O' x → E ≤ x) : FRD E w' O' b f H := by
  obtain ⟨Ds, Of, h1, h2, h3, h4, h5⟩ := h
  exact ⟨Ds, fun x => Of x ∧ x < w.heap.size, h1.kp k hE (fun x hl hx => ⟨(hs x hl (h3 x hx)).1, hx, hl⟩) fun x hx => h4 x (h3 x hx.1), h2.kp pkR k fun x hl hx => ⟨(hs x hl hx.1).1, (hs x hl hx.1).2, fun hh => hx.2 hh.1⟩, fun x hx => (hs x hx.2 (h3 x hx.1)).2, hO', h5⟩
theorem FRD.kp0 (h : FRD E w O b f H) (k : Kp none_ w w') : FRD E w' O b f H := h.kp k (fun i hi => hi.elim) (fun x _ hx => ⟨id, hx⟩) (by obtain ⟨Ds, Of, h1, h2, h3, h4, h5⟩ := h; exact h4)
theorem FRD.up {z : Nat} (h : FRD E w O b f H) (hz : E ≤ z) : FRD E w (fun x => O x ∨ z ≤ x) b f H := h.kp (Kp.refl none_ _) (fun i hi => hi.elim) (fun x _ hx => ⟨id, .inl hx⟩) (by
  obtain ⟨Ds, Of, h1, h2, h3, h4, h5⟩ := h
  intro x hx
  rcases hx with hx | hx
  · exact h4 x hx
  · omega)
theorem FRD.low {y z : Nat} (h : FRD E w (fun x => O x ∨ y ≤ x) b f H) (hz : z ≤ y) (hE : E ≤ z) (hO : ∀ x, O x → E ≤ x) : FRD E w (fun x => O x ∨ z ≤ x) b f H := h.kp (Kp.refl none_ _) (fun i hi => hi.elim) (fun x _ hx => ⟨id, hx.imp id fun h => by omega⟩) (fun x hx => by rcases hx with hx | hx; exact hO x hx; omega)
theorem FRD.lt (h : FRD E w O b f H) : b < w.heap.size ∧ O b := by
  obtain ⟨Ds, Of, h1, h2, h3, h4, h5⟩ := h
  exact ⟨h1.lt.1, h3 _ h1.lt.2.1⟩
theorem FRD.ge (h : FRD E w O b f H) : ∀ x, O x → E ≤ x := by
  obtain ⟨Ds, Of, h1, h2, h3, h4, h5⟩ := h
  exact h4
theorem FRD.hst (h : FRD E w O b f H) : Hst f.S f.ws H (lastE f.S f.ws) := by
  obtain ⟨Ds, Of, h1, h2, h3, h4, h5⟩ := h
  exact h5
theorem FRD.szE (h : FRD E w O b f H) : E ≤ w.heap.size := by
  have := h.ge _ h.lt.2
  have := h.lt.1
  omega
theorem c99F (h : FRD E w O b f H) (o : Fok f) : Rets Tryz.prog 45 #[ptA b 0] w fun v w' => v = .bool (decide (refE f.rl f.k = 0)) ∧ FRD E w' O b (cnt f) H ∧ Kp O w w' ∧ w.heap.size ≤ w'.heap.size := by
  have lb := h.lt
  obtain ⟨Ds, Of, h1, h2, h3, h4, h5⟩ := h
  have o1 := o.k
  have o2 := o.r
  have o3 := o.rll
  refine (c99 h1 (by omega) (by omega) (by omega)).mono ?_
  rintro v w1 ⟨rfl, g, k⟩
  exact ⟨rfl, ⟨Ds, Of, g, h2.kp pkR k fun x _ hx => ⟨fun e => hx.2 (by have e : x = b := e; rw [e]; exact h1.lt.2.1), hx⟩, h3, h4, h5⟩, k.mono fun x _ hx => by have hx : x = b := hx; rw [hx]; exact lb.2, k.size⟩
theorem c100F (h : FRD E w O b f H) (i : Int) : Rets Tryz.prog 32 #[ptA b 0, .int .i64 i] w fun v w' => w' = w ∧ v = .bool (decide (0 ≤ i ∧ i < f.ds.length)) := by
  obtain ⟨Ds, Of, h1, h2, h3, h4, h5⟩ := h
  rw [← h2.len]
  exact c100 h1 i
/-- A disk of the document's. -/
theorem FRD.disk (h : FRD E w O b f H) {i : Nat} (hi : i < f.ds.length) : ∃ (Ds : List Nat) (q : Option Addr) (c : Nat) (col : Col), Ds.length = f.ds.length ∧ w.cell? ⟨b, 0, none⟩ = some (.slice q Ds.length c) ∧ RowsAt w 1 ptC q Ds ∧ RDsk w col (Ds.getD i 0) (f.ds.getD i emptySt) ∧ (∀ x, col x ≠ 0 → O x) ∧
    ∀ {w' : World} {col' : Col} {s' : St}, Kp (ownC col) w w' → Grow col col' w w' → RDsk w' col' (Ds.getD i 0) s' → FRD E w' (fun x => O x ∨ w.heap.size ≤ x) b { f with ds := f.ds.set i s' } H := by
  have sz := h.szE
  obtain ⟨Ds, Of, h1, h2, h3, h4, h5⟩ := h
  have hlen := h2.len
  obtain ⟨q, c, e0, r0, _⟩ := h1.disks
  obtain ⟨col, p, cQ, put⟩ := h2.at pkR hi
  refine ⟨Ds, q, c, col, hlen, e0, r0, p, fun x hx => (cQ x hx).1, ?_⟩
  intro w' col' s' k g p'
  have z := k.size
  exact ⟨Ds, fun x => Of x ∧ x < w.heap.size, h1.kp k (fun x hx => h4 x (cQ x hx).1) (fun x hl hx => ⟨fun hh => (cQ x hh).2 hx, hx, hl⟩) (fun x hx => h4 x (h3 x hx.1)), (put k g p').kp pkR (Kp.refl none_ _) fun x hl hx => ⟨id, by rcases hx with hx | hx; exact ⟨.inl hx.1, fun hh => hx.2 hh.1⟩; exact ⟨.inr hx, fun hh => by have := hh.2; omega⟩⟩, fun x hx => .inl (h3 x hx.1), fun x hx => by rcases hx with hx | hx; exact h4 x hx; omega, h5⟩
theorem FRD.dir (h : FRD E w O b f H) : ∃ Od, RD w Od b 1 H (lastE f.S f.ws) ∧ (∀ x, Od x → O x) := by
  obtain ⟨Ds, Of, ⟨dv, own, Od, rq, rc, h1, h2, h3, h4, h5, h6, h7, h8, h9⟩, g2, g3, g4, g5⟩ := h
  exact ⟨Od, h2, fun x hx => g3 x (h8 x hx)⟩
/-- What is used. -/
theorem c101 (h : FRD E w O b f H) (o : Fok f) : Rets Tryz.prog 30 #[ptA b 0] w fun v w' => w' = w ∧ v = .int .i64 (usedN f f.ds.length) ∧ (0 ≤ usedN f f.ds.length ∧ usedN f f.ds.length ≤ 4096 * f.ds.length) := by
  refine ent [_] Tryz.func30 ((vcTryz30 _ w _).mpr ?_)
  unfold VCTryz30
  have hdl := o.dsl
  have hst := h.hst
  have hwsl := o.wsl
  refine ⟨fun i n w' => ∃ j : Nat, i = j ∧ j ≤ f.ds.length ∧ n = usedN f j ∧ (0 ≤ n ∧ n ≤ 4096 * j) ∧ w' = w, fun i _ _ => (f.ds.length - i).toNat, ⟨0, rfl, by omega, rfl, by omega, rfl⟩, ?_⟩
  rintro i n w1 ⟨j, rfl, hj, rfl, hn, rfl⟩
  obtain ⟨Ds0, Of0, g1, g2, _⟩ := h
  have hlen0 := g2.len
  obtain ⟨q0, c0, e0, _, _⟩ := g1.disks
  have h : FRD E w1 O b f H := ⟨Ds0, Of0, g1, g2, by assumption⟩
  simp only [ptr_some, ad3, Nat.zero_add, Nat.add_zero]
  refine ⟨_, _, _, e0, bif_dec (fun hi => ?_) (fun hi => ?_)⟩
  · have hjl : j < f.ds.length := by omega
    obtain ⟨Od, d, _⟩ := h.dir
    refine (c50 d (by rw [hst.len]; omega) (fun l hl => by have := (hst.wfH l hl).len; omega) (by have := hst.wfN.len; omega) j).mono ?_
    rintro v w2 ⟨e, rfl⟩
    obtain rfl := e.symm
    have hl : ((H ++ [lastE f.S f.ws]).any fun l => idIn l j) = lnk f j := by rw [hst.all]; exact linked_eq hst.wf hst.ok j
    rw [hl]
    refine ⟨_, rfl, (Kp.refl none_ _).keeps0, bif_b (fun ht => ?_) (fun ht => ?_)⟩
    · obtain ⟨Ds, q, c, col, hlen, e1, r1, p, _, _⟩ := h.disk hjl
      have hjD : j < Ds.length := by omega
      have eD : Ds.getD j 0 = Ds[j] := by rw [List.getD_eq_getElem?_getD, List.getElem?_eq_getElem hjD]; rfl
      rw [eD] at p
      have sz := p.ok.size
      obtain ⟨qn, cn, en, _⟩ := p.now
      have eu : usedN f (j + 1) = usedN f j + (f.ds.getD j emptySt).size := by
        show usedN f j + (if lnk f j = true then _ else _) = _
        rw [if_pos ht]
      refine ⟨_, _, _, e1, ⟨by omega, by omega⟩, r1.get hjD fun a ea hc => ⟨_, (cell_add0 _ _).symm.trans (hc 0 _ rfl), ?_⟩⟩
      simp only [ptr_some, ad3, Nat.zero_add, Nat.add_zero]
      exact ⟨_, _, _, en, wr64 (by omega) (wr64 (by omega) ⟨⟨j + 1, by omega, by omega, eu.symm, by omega, trivial⟩, by first | omega | (dsimp only; omega)⟩)⟩
    · have eu : usedN f (j + 1) = usedN f j := by
        show usedN f j + (if lnk f j = true then _ else _) = _
        rw [if_neg (by rw [ht]; simp), Int.add_zero]
      exact wr64 (by omega) ⟨⟨j + 1, by omega, by omega, eu.symm, by omega, rfl⟩, by first | omega | (dsimp only; omega)⟩
  · have ej : j = f.ds.length := by omega
    subst ej
    exact ⟨_, rfl, trivial, rfl, hn⟩
theorem c70 (h : FRD E w O b f H) (o : Fok f) (i : Int) : Rets Tryz.prog 20 #[ptA b 0, .int .i64 i] w fun v w' => v = .int .i64 (syF f i).1 ∧ FRD E w' (fun x => O x ∨ w.heap.size ≤ x) b (syF f i).2 H ∧ Kp O w w' := by
  refine ent [_, _] Tryz.func20 ((vcTryz20 _ _ w _).mpr ?_)
  unfold VCTryz20
  have sz := h.szE
  have ge := h.ge
  refine (c99F h o).mono ?_
  rintro v w1 ⟨rfl, h1, K1, z1⟩
  rcases (refE_or f.rl f.k).symm with e0 | e0
  · have eW : syF f i = (10, cnt f) := by unfold syF; rw [if_pos (by rw [e0]; decide)]
    rw [eW, e0]
    exact ⟨_, rfl, K1.keeps0, bif_not (fun _ => ⟨_, rfl, rfl, h1.up sz, K1⟩) (fun hh => by cases hh)⟩
  rw [e0]
  refine ⟨_, rfl, K1.keeps0, bif_not (fun hh => by cases hh) fun _ => (c100F h1 i).mono ?_⟩
  rintro v w2 ⟨e, rfl⟩
  obtain rfl := e.symm
  refine ⟨_, rfl, (Kp.refl none_ _).keeps0, bif_not (fun hi => ?_) (fun hi => ?_)⟩
  · have hi := of_decide_eq_false hi
    have hi : ¬ (0 ≤ i ∧ i < f.ds.length) := hi
    have eW : syF f i = (1, cnt f) := by unfold syF; rw [if_neg (by rw [e0]; simp), if_pos (by omega)]
    rw [eW]
    exact ⟨_, rfl, rfl, h1.up sz, K1⟩
  · have hi := of_decide_eq_true hi
    have hi : 0 ≤ i ∧ i < f.ds.length := hi
    have eW : syF f i = (0, { cnt f with ds := f.ds.set i.toNat (syncSt (f.ds.getD i.toNat emptySt)) }) := by unfold syF; rw [if_neg (by rw [e0]; simp), if_neg (by omega)]
    rw [eW]
    obtain ⟨j, rfl⟩ : ∃ j : Nat, i = j := ⟨i.toNat, by omega⟩
    have hj : j < (cnt f).ds.length := by show j < f.ds.length; omega
    obtain ⟨Ds, q, c, col, hlen, e1, r1, p, cO, put⟩ := h1.disk hj
    have hlen : Ds.length = f.ds.length := hlen
    have hjD : j < Ds.length := by omega
    have eD : Ds.getD j 0 = Ds[j] := by rw [List.getD_eq_getElem?_getD, List.getElem?_eq_getElem hjD]; rfl
    rw [eD] at p put
    simp only [ptr_some, ad3, Nat.zero_add, Nat.add_zero]
    refine ⟨_, _, _, e1, ⟨by omega, by omega⟩, r1.get hjD fun a ea hc => ⟨_, (cell_add0 _ _).symm.trans (hc 0 _ rfl), (c59 p).mono ?_⟩⟩
    rintro v w3 ⟨rfl, k3, p3⟩
    exact ⟨rfl, k3.keeps0, _, rfl, rfl, (put k3 (Grow.refl p.lt k3.size) p3).low z1 sz ge, K1.then k3 fun x hx hh => cO x hh⟩
end Go.Proofs.YtlgkcbdpaffigaaGreat

namespace Go.Proofs.YtlgkcbdpaffigaaGreat
open Go Go.SX Go.Proofs
set_option maxRecDepth 100000
set_option linter.unusedVariables false
set_option linter.unusedSimpArgs false
variable {E : Nat} {w w' : World} {O O' : Nat → Prop} {b : Nat} {f : Fst} {H : List (List Ent)}
theorem FRD.dirOp (h : FRD E w O b f H) : ∃ Od, RD w Od b 1 H (lastE f.S f.ws) ∧ (∀ x, Od x → O x) ∧
    ∀ {w' : World} {S' : List Ent} {ws' : List Chg} {H' : List (List Ent)} {N' : List Ent}, RD w' (fun i => Od i ∨ w.heap.size ≤ i) b 1 H' N' → Kp Od w w' → Nb b 1 2 w w' → Hst S' ws' H' N' → FRD E w' (fun i => O i ∨ w.heap.size ≤ i) b { f with S := S', ws := ws' } H' := by
  have sz := h.szE
  obtain ⟨Ds, Of, ⟨dv, own, Od, rq, rc, h1, h2, h3, h4, h5, h6, h7, h8, h9⟩, g2, g3, g4, g5⟩ := h
  refine ⟨Od, h2, fun x hx => g3 x (h8 x hx), ?_⟩
  intro w' S' ws' H' N' d kk nb hst
  have z := kk.size
  have eN := hst.last
  subst eN
  refine ⟨Ds, fun x => (Of x ∨ w.heap.size ≤ x), ⟨dv, fun i => own i ∧ i < w.heap.size, fun i => (Od i ∨ w.heap.size ≤ i) ∧ i < w'.heap.size, rq, rc, h1.nb kk nb (.inl (by simp)), d.mono fun i hl hi => ⟨hi, hl⟩, h3.nb kk nb (.inr (by omega)), ?_, h5.kp kk fun h0 a e hh => ?_, h6, fun i hi => ⟨.inl (h7 i hi.1).1, fun hh => ?_⟩, fun i hi => ?_, fun i hi => ?_⟩, g2.kp pkR kk fun x hl hx => ⟨fun hh => hx.2 (h8 x hh), .inl hx.1, fun hh => ?_⟩, fun x hx => hx.imp (g3 x) id, fun x hx => ?_, hst⟩
  · exact (h4.mono (own' := fun i => own i ∧ i < w.heap.size) fun i hi hl => ⟨hi, hl⟩).kp kk fun g n cap _ hg => (h7 g hg.1).2
  · have := h6 h0 a e; have := h9 _ (h8 _ hh); omega
  · rcases hh.1 with hh | hh
    · exact (h7 i hi.1).2 hh
    · have := hi.2; omega
  · rcases hi.1 with hh | hh
    · exact .inl (h8 i hh)
    · exact .inr hh
  · rcases hi with hi | hi
    · exact h9 i hi
    · omega
  · rcases hh with hh | hh
    · exact hx.2 hh
    · omega
  · rcases hx with hx | hx
    · exact g4 x hx
    · omega
theorem c71 (h : FRD E w O b f H) (o : Fok f) : Rets Tryz.prog 22 #[ptA b 0] w fun v w' => v = .int .i64 (sdF f).1 ∧ (∃ H', FRD E w' (fun x => O x ∨ w.heap.size ≤ x) b (sdF f).2 H') ∧ Kp O w w' := by
  refine ent [_] Tryz.func22 ((vcTryz22 _ w _).mpr ?_)
  unfold VCTryz22
  have sz := h.szE
  have ge := h.ge
  refine (c99F h o).mono ?_
  rintro v w1 ⟨rfl, h1, K1, z1⟩
  rcases (refE_or f.rl f.k).symm with e0 | e0
  · have eW : sdF f = (10, cnt f) := by unfold sdF; rw [if_pos (by rw [e0]; decide)]
    rw [eW, e0]
    exact ⟨_, rfl, K1.keeps0, bif_not (fun _ => ⟨_, rfl, rfl, ⟨_, h1.up sz⟩, K1⟩) (fun hh => by cases hh)⟩
  · have eW : sdF f = (0, { cnt f with S := lastE f.S f.ws, ws := [] }) := by unfold sdF; rw [if_neg (by rw [e0]; simp)]
    rw [eW, e0]
    obtain ⟨Od, d, dO, go⟩ := h1.dirOp
    obtain ⟨s1, s2, d2, k2, _⟩ := d.clear
    refine ⟨_, rfl, K1.keeps0, bif_not (fun hh => by cases hh) fun _ => ?_⟩
    simp only [ptr_some, ad3, Nat.zero_add, Nat.add_zero]
    refine ⟨s1, s2, _, rfl, rfl, ⟨_, (go (d2.mono fun i _ hi => .inl hi) k2 (Nb.set w1 (b := b) (o := 1) (i := 1) (by omega) _) h1.hst.sync).low z1 sz ge⟩, K1.then k2 fun x hx hh => dO x hh⟩
theorem c72 (h : FRD E w O b f H) (o : Fok f) (hO : ∀ x, O x → x < w.heap.size) (a t : List UInt8) : Rets Tryz.prog 24 #[ptA b 0, .string (ba a), .string (ba t)] w fun v w' => v = .int .i64 (rnF f a t).1 ∧ (∃ H', FRD E w' (fun x => O x ∨ w.heap.size ≤ x) b (rnF f a t).2 H') ∧ Kp O w w' := by
  refine ent [_, _, _] Tryz.func24 ((vcTryz24 _ _ _ w _).mpr ?_)
  unfold VCTryz24
  have sz := h.szE
  have ge := h.ge
  refine (c99F h o).mono ?_
  rintro v w1 ⟨rfl, h1, K1, z1⟩
  rcases (refE_or f.rl f.k).symm with e0 | e0
  · have eW : rnF f a t = (10, cnt f) := by unfold rnF; rw [if_pos (by rw [e0]; decide)]
    rw [eW, e0]
    exact ⟨_, rfl, K1.keeps0, bif_not (fun _ => ⟨_, rfl, rfl, ⟨_, h1.up sz⟩, K1⟩) (fun hh => by cases hh)⟩
  · have eW : rnF f a t = (renameE (lastE f.S f.ws) a t, { cnt f with ws := if renameE (lastE f.S f.ws) a t = 0 then f.ws ++ [⟨a, t, 0⟩] else f.ws }) := by unfold rnF; rw [if_neg (by rw [e0]; simp)]
    rw [eW, e0]
    obtain ⟨Od, d, dO, go⟩ := h1.dirOp
    have d : RD w1 Od b 1 H (lastE f.S f.ws) := d
    have hst : Hst f.S f.ws H (lastE f.S f.ws) := h1.hst
    have wN := hst.wfN
    have hlen := hst.len
    have hws := o.wsl
    refine ⟨_, rfl, K1.keeps0, bif_not (fun hh => by cases hh) fun _ => ?_⟩
    simp only [ptr_some, ad3, Nat.zero_add, Nat.add_zero]
    refine (c79 d (fun i hi => by have := hO i (dO i hi); omega) (by omega) (by have := wN.len; omega) (asc_nk wN.asc) a t).mono ?_
    rintro v w2 ⟨rfl, r2, k2, n2⟩
    refine ⟨_, rfl, k2.keeps0, _, rfl, rfl, ?_, K1.then k2 fun x hx hh => dO x hh⟩
    by_cases hE : renameE (lastE f.S f.ws) a t = 0
    · rw [if_pos hE] at r2 ⊢
      rw [if_pos hE] at r2
      obtain ⟨g1, g2⟩ := rename_ok wN hE
      rw [g2] at r2
      exact ⟨_, (go r2 k2 n2 (hst.snoc g1)).low z1 sz ge⟩
    · rw [if_neg hE] at r2 ⊢
      rw [if_neg hE] at r2
      exact ⟨_, (go r2 k2 n2 hst).low z1 sz ge⟩
theorem c73 (h : FRD E w O b f H) (o : Fok f) (hO : ∀ x, O x → x < w.heap.size) (a : List UInt8) : Rets Tryz.prog 26 #[ptA b 0, .string (ba a)] w fun v w' => v = .int .i64 (rmF f a).1 ∧ (∃ H', FRD E w' (fun x => O x ∨ w.heap.size ≤ x) b (rmF f a).2 H') ∧ Kp O w w' := by
  refine ent [_, _] Tryz.func26 ((vcTryz26 _ _ w _).mpr ?_)
  unfold VCTryz26
  have sz := h.szE
  have ge := h.ge
  refine (c99F h o).mono ?_
  rintro v w1 ⟨rfl, h1, K1, z1⟩
  rcases (refE_or f.rl f.k).symm with e0 | e0
  · have eW : rmF f a = (10, cnt f) := by unfold rmF; rw [if_pos (by rw [e0]; decide)]
    rw [eW, e0]
    exact ⟨_, rfl, K1.keeps0, bif_not (fun _ => ⟨_, rfl, rfl, ⟨_, h1.up sz⟩, K1⟩) (fun hh => by cases hh)⟩
  · have eW : rmF f a = (removeE (lastE f.S f.ws) a, { cnt f with ws := if removeE (lastE f.S f.ws) a = 0 then f.ws ++ [⟨a, [], 0⟩] else f.ws }) := by unfold rmF; rw [if_neg (by rw [e0]; simp)]
    rw [eW, e0]
    obtain ⟨Od, d, dO, go⟩ := h1.dirOp
    have d : RD w1 Od b 1 H (lastE f.S f.ws) := d
    have hst : Hst f.S f.ws H (lastE f.S f.ws) := h1.hst
    have wN := hst.wfN
    have hlen := hst.len
    have hws := o.wsl
    refine ⟨_, rfl, K1.keeps0, bif_not (fun hh => by cases hh) fun _ => ?_⟩
    simp only [ptr_some, ad3, Nat.zero_add, Nat.add_zero]
    refine (c80 d (fun i hi => by have := hO i (dO i hi); omega) (by omega) (by have := wN.len; omega) a).mono ?_
    rintro v w2 ⟨rfl, r2, k2, n2⟩
    refine ⟨_, rfl, k2.keeps0, _, rfl, rfl, ?_, K1.then k2 fun x hx hh => dO x hh⟩
    by_cases hE : removeE (lastE f.S f.ws) a = 0
    · rw [if_pos hE] at r2 ⊢
      rw [if_pos hE] at r2
      obtain ⟨g1, g2⟩ := remove_ok hE
      rw [g2] at r2
      exact ⟨_, (go r2 k2 n2 (hst.snoc g1)).low z1 sz ge⟩
    · rw [if_neg hE] at r2 ⊢
      rw [if_neg hE] at r2
      exact ⟨_, (go r2 k2 n2 hst).low z1 sz ge⟩
end Go.Proofs.YtlgkcbdpaffigaaGreat

namespace Go.Proofs.YtlgkcbdpaffigaaGreat
open Go Go.SX Go.Proofs
set_option maxRecDepth 100000
set_option linter.unusedVariables false
set_option linter.unusedSimpArgs false
variable {E : Nat} {w w' : World} {O O' : Nat → Prop} {b : Nat} {f : Fst} {H : List (List Ent)}
theorem und123 : Tryz.prog.underlying 40 = some (.slice 72) := Tryz.underlying40
theorem elem37 : elemOk Tryz.prog 72 1 = true := by kernel_rfl
theorem FRD.cells (h : FRD E w O b f H) : (∃ q c, w.cell? ⟨b, 0, none⟩ = some (.slice q f.ds.length c)) ∧ w.cell? ⟨b, 3, none⟩ = some (.int .i64 f.cap) ∧ w.cell? ⟨b, 5, none⟩ = some (.int .i64 f.r) := by
  obtain ⟨Ds, Of, h1, g2, g3, g4, g5⟩ := h
  obtain ⟨q, c, e0, _⟩ := h1.disks
  rw [g2.len] at e0
  obtain ⟨dv, own, Od, rq, rc, h1, h2, h3, h4, h5, h6, h7, h8, h9⟩ := h1
  exact ⟨⟨q, c, e0⟩, h3.get 0 rfl, h3.get 2 rfl⟩
theorem FRD.setR (h : FRD E w O b f H) (r' : Int) : (∃ v, w.cell? ⟨b, 5, none⟩ = some v) ∧ w.frozen? ⟨b, 5, none⟩ = false ∧ FRD E (w.setCell ⟨b, 5, none⟩ (.int .i64 r')) O b { f with r := r' } H ∧ Kp O w (w.setCell ⟨b, 5, none⟩ (.int .i64 r')) := by
  have lb := h.lt
  obtain ⟨Ds, Of, h1, h2, h3, h4, h5⟩ := h
  obtain ⟨x1, x2, x3, x4⟩ := h1.set (j := 2) (by omega) (cap' := f.cap) (k' := f.k) (r' := r') (u := r') rfl
  exact ⟨x3, x4, ⟨Ds, Of, x1, h2.kp pkR x2 fun x _ hx => ⟨fun e => hx.2 (by have e : x = b := e; rw [e]; exact h1.lt.2.1), hx⟩, h3, h4, h5⟩, x2.mono fun x _ hx => by have hx : x = b := hx; rw [hx]; exact lb.2⟩
theorem c69 (h : FRD E w O b f H) (o : Fok f) (hk : f.k < 100000) (hr : f.r < 100000) {q : Option Addr} {n cp : Nat} {bf : Int → Int} (hb : Ints w .u8 q n bf) (hby : ∀ i : Int, 0 ≤ i → i < n → isByte (bf i)) (hcp : n ≤ cp) (hq : 0 < n → ∀ a, q = some a → ¬ O a.block) (i at_ : Int) (hw : ∀ s ∈ f.ds, s.wait.length ≤ 90000) :
    Rets Tryz.prog 18 #[ptA b 0, .int .i64 i, .int .i64 at_, .slice q n cp] w fun v w' => v = .int .i64 (wrF f i at_ n bf).1 ∧ FRD E w' (fun x => O x ∨ w.heap.size ≤ x) b (wrF f i at_ n bf).2 H ∧ Kp O w w' := by
  refine ent [_, _, _, _] Tryz.func18 ((vcTryz18 _ _ _ _ _ _ w _).mpr ?_)
  unfold VCTryz18
  have sz := h.szE
  have ge := h.ge
  refine (c99F h o).mono ?_
  rintro v w1 ⟨rfl, h1, K1, z1⟩
  have o1 := cnt_ok o hk hr
  rcases (refE_or f.rl f.k).symm with e0 | e0
  · have eW : wrF f i at_ n bf = (10, cnt f) := by unfold wrF; rw [if_pos (by rw [e0]; decide)]
    rw [eW, e0]
    exact ⟨_, rfl, K1.keeps0, bif_not (fun _ => ⟨_, rfl, rfl, h1.up sz, K1⟩) (fun hh => by cases hh)⟩
  rw [e0]
  refine ⟨_, rfl, K1.keeps0, bif_not (fun hh => by cases hh) fun _ => (c100F h1 i).mono ?_⟩
  rintro v w2 ⟨e, rfl⟩
  obtain rfl := e.symm
  refine ⟨_, rfl, (Kp.refl none_ _).keeps0, bif_not (fun hi => ?_) (fun hi => ?_)⟩
  · have hi := of_decide_eq_false hi
    have hi : ¬ (0 ≤ i ∧ i < f.ds.length) := hi
    have eW : wrF f i at_ n bf = (1, cnt f) := by unfold wrF; rw [if_neg (by rw [e0]; simp), if_pos (by omega)]
    rw [eW]
    exact ⟨_, rfl, rfl, h1.up sz, K1⟩
  have hi := of_decide_eq_true hi
  have hi : 0 ≤ i ∧ i < f.ds.length := hi
  refine (c95 w1 at_ n).mono ?_
  rintro v w2 ⟨rfl, e⟩
  obtain rfl := e.symm
  refine ⟨_, rfl, (Kp.refl none_ _).keeps0, bif_not (fun hr0 => ?_) (fun hr1 => ?_)⟩
  · have eW : wrF f i at_ n bf = (1, cnt f) := by unfold wrF; rw [if_neg (by rw [e0]; simp), if_pos (.inr (.inr hr0))]
    rw [eW]
    exact ⟨_, rfl, rfl, h1.up sz, K1⟩
  obtain ⟨j, rfl⟩ : ∃ j : Nat, i = j := ⟨i.toNat, by omega⟩
  have hj : j < (cnt f).ds.length := by show j < f.ds.length; omega
  obtain ⟨Ds, q1, c1, col, hlen, e1, r1, p, cO, put⟩ := h1.disk hj
  have hlen : Ds.length = f.ds.length := hlen
  have hjD : j < Ds.length := by omega
  have eD : Ds.getD j 0 = Ds[j] := by rw [List.getD_eq_getElem?_getD, List.getElem?_eq_getElem hjD]; rfl
  rw [eD] at p put
  have p : RDsk w1 col Ds[j] (f.ds.getD j emptySt) := p
  have eW : wrF f j at_ n bf = if needF (f.ds.getD j emptySt) at_ n > (f.ds.getD j emptySt).size ∧ needF (f.ds.getD j emptySt) at_ n - (f.ds.getD j emptySt).size > f.cap - usedN f f.ds.length then (9, { cnt f with r := (cnt f).r + 1 }) else (0, { cnt f with ds := f.ds.set j (if rightF at_ n = true ∧ n ≠ 0 then writeSt (f.ds.getD j emptySt) at_ n bf else f.ds.getD j emptySt) }) := by
    unfold wrF
    rw [if_neg (by rw [e0]; simp), if_neg (by rw [hr1]; simp; omega), Int.toNat_natCast]
  have hmem : f.ds.getD j emptySt ∈ f.ds := List.mem_of_getElem? (getD_get f.ds emptySt (i := j) hj)
  have szo := p.ok.size
  have nO : needF (f.ds.getD j emptySt) at_ n ≤ 4200 ∧ 0 ≤ needF (f.ds.getD j emptySt) at_ n := by
    have hr2 := of_decide_eq_true hr1
    unfold needF
    split <;> omega
  have k0 : Kp none_ w1 w1.drew := Kp.drew1
  have hrest : (¬ (needF (f.ds.getD j emptySt) at_ n > (f.ds.getD j emptySt).size ∧ needF (f.ds.getD j emptySt) at_ n - (f.ds.getD j emptySt).size > f.cap - usedN f f.ds.length)) → ∀ {W : World}, Kp none_ w1 W → Rets Tryz.prog 49 #[.pointer (some ⟨Ds[j], 0, none⟩), .int .i64 at_, .slice q n cp] W fun v w3 => ∃ i3 : Int, v = .int .i64 i3 ∧ Keeps W w3 [] ∧ ∃ v, Ending.returned (.int .i64 i3) = Ending.returned v ∧ v = .int .i64 (wrF f j at_ n bf).1 ∧ FRD E w3 (fun x => O x ∨ w.heap.size ≤ x) b (wrF f j at_ n bf).2 H ∧ Kp O w w3 := fun hc {W} kW => by
    rw [eW, if_neg hc]
    have zW := kW.size
    have hqW : 0 < n → ∀ a, q = some a → col a.block = 0 := fun h0 a e => by
      by_cases ec : col a.block = 0
      · exact ec
      · exact absurd (cO _ ec) (hq h0 a e)
    have hbW : Ints W .u8 q n bf := ((hb.kp K1 fun h0 a e => hq h0 a e).kp kW fun _ _ _ => id)
    refine (c58 (p.kp0 kW) hbW hby hcp hqW (hw _ hmem) at_).mono ?_
    rintro v w3 ⟨rfl, k3, col', g3, p3⟩
    have kk := kW.wide.trans k3
    have F3 := put kk ⟨fun i hi => g3.1 i (by omega), g3.2⟩ p3
    exact ⟨_, rfl, k3.keeps0, _, rfl, by rw [if_pos hr1], F3.low z1 sz ge, K1.then kk fun x hx hh => cO x hh⟩
  obtain ⟨qn, cn, en, _⟩ := p.now
  obtain ⟨⟨q0, c0, e00⟩, e3, e5⟩ := h1.cells
  have oc := o.cap
  have odl := o.dsl
  have oc1 := o1.r
  simp only [ptr_some, ad3, Nat.zero_add, Nat.add_zero]
  refine ⟨_, _, _, e1, ⟨by omega, by omega⟩, r1.get hjD fun a ea hc => ⟨_, (cell_add0 _ _).symm.trans (hc 0 _ rfl), ?_⟩⟩
  simp only [ptr_some, ad3, Nat.zero_add, Nat.add_zero]
  refine ⟨_, _, _, k0.cell0 en, (c96 (p.kp0 k0) at_ n hr1).mono ?_⟩
  rintro v w2 ⟨rfl, e⟩
  obtain rfl := e.symm
  refine ⟨_, rfl, (Kp.refl none_ _).keeps0, k0.cell0 en, wr64 (by omega) (bif_dec (fun hm => ?_) (fun hm => hrest (fun hc => hm (by omega)) k0.drew))⟩
  refine ⟨_, k0.drew.cell0 e3, (c101 (h1.kp0 k0.drew) o1).mono ?_⟩
  rintro v w3 ⟨e, rfl, hu⟩
  obtain rfl := e.symm
  have eu : usedN (cnt f) (cnt f).ds.length = usedN f f.ds.length := usedN_cnt f _
  rw [eu] at hu ⊢
  have hu : 0 ≤ usedN f f.ds.length ∧ usedN f f.ds.length ≤ 4096 * f.ds.length := hu
  refine ⟨_, rfl, (Kp.refl none_ _).keeps0, k0.drew.cell0 e3, wr64 (by omega) (bif_dec (fun hs => ?_) (fun hs => hrest (fun hc => hs (by have := hc.2; show _ > f.cap; omega)) k0.drew))⟩
  have hs : usedN f f.ds.length + (needF (f.ds.getD j emptySt) at_ n - (f.ds.getD j emptySt).size) > f.cap := hs
  rw [eW, if_pos ⟨by omega, by omega⟩]
  obtain ⟨x2, x3, x4, x5⟩ := (h1.kp0 k0.drew).setR ((cnt f).r + 1)
  exact ⟨_, k0.drew.cell0 e5, wr64 (by omega) ⟨x2, x3, _, rfl, rfl, x4.up sz, (K1.trans k0.drew.wide).trans x5⟩⟩
end Go.Proofs.YtlgkcbdpaffigaaGreat

namespace Go.Proofs.YtlgkcbdpaffigaaGreat
open Go Go.SX Go.Proofs
set_option maxRecDepth 100000
set_option linter.unusedVariables false
set_option linter.unusedSimpArgs false
variable {E : Nat} {w w' : World} {O O' : Nat → Prop} {b : Nat} {f : Fst} {H : List (List Ent)}
theorem c68 (h : FRD E w O b f H) (o : Fok f) (hO : ∀ x, O x → x < w.heap.size) (a : List UInt8) : Rets Tryz.prog 17 #[ptA b 0, .string (ba a)] w fun v w' => v = .tuple #[.int .i64 (if newF f a = 0 then f.ds.length else 0), .int .i64 (newF f a)] ∧ (∃ H', FRD E w' (fun x => O x ∨ w.heap.size ≤ x) b (mkF f a) H') ∧ Kp O w w' := by
  refine ent [_, _] Tryz.func17 ((vcTryz17 _ _ w _).mpr ?_)
  unfold VCTryz17
  have sz := h.szE
  have ge := h.ge
  have lb := h.lt
  refine (c99F h o).mono ?_
  rintro v w1 ⟨rfl, h1, K1, z1⟩
  have hdl := o.dsl
  rcases (refE_or f.rl f.k).symm with e0 | e0
  · have eN : newF f a = 10 := by unfold newF; rw [if_pos (by rw [e0]; decide), e0.symm, e0]
    have eM : mkF f a = cnt f := by unfold mkF; rw [if_neg (by rw [eN]; decide)]
    rw [eM, eN, e0]
    exact ⟨_, rfl, K1.keeps0, bif_not (fun _ => ⟨_, rfl, rfl, ⟨_, h1.up sz⟩, K1⟩) (fun hh => by cases hh)⟩
  rw [e0]
  refine ⟨_, rfl, K1.keeps0, bif_not (fun hh => by cases hh) fun _ => ?_⟩
  simp only [ptr_some, ad3, Nat.zero_add, Nat.add_zero]
  have hst : Hst f.S f.ws H (lastE f.S f.ws) := h1.hst
  have wN := hst.wfN
  have hlenH := hst.len
  have hws := o.wsl
  have hfull := h1
  obtain ⟨Ds, Of, g1, g2, g3, g4, g5⟩ := h1
  have hlen : Ds.length = f.ds.length := g2.len
  obtain ⟨q, c, e1, _, _⟩ := g1.disks
  refine ⟨_, _, _, e1, bif_dec (fun hn => ?_) (fun hn => ?_)⟩
  · have eN : newF f a = 14 := by unfold newF; rw [if_neg (by rw [e0]; simp), if_pos (by omega)]
    have eM : mkF f a = cnt f := by unfold mkF; rw [if_neg (by rw [eN]; decide)]
    rw [eM, eN]
    exact ⟨_, rfl, rfl, ⟨_, hfull.up sz⟩, K1⟩
  have eN : newF f a = createE (lastE f.S f.ws) a := by unfold newF; rw [if_neg (by rw [e0]; simp), if_neg (by omega)]
  have k0 : Kp none_ w1 w1.drew := Kp.drew1
  refine ⟨_, _, _, k0.cell0 e1, ?_⟩
  have g1' := g1
  obtain ⟨dv, own, Od, rq, rc, h1, h2, h3, h4, h5, h6, h7, h8, h9⟩ := g1
  have dlt : ∀ i, Od i → i < w1.drew.heap.size := fun i hi => by
    have := hO i (g3 i (h8 i hi))
    show i < w1.heap.size
    omega
  have h2 : RD w1 Od b 1 H (lastE f.S f.ws) := h2
  refine (c78 (h2.kp0 k0) dlt (by omega) (by have := wN.len; omega) a Ds.length).mono ?_
  rintro v w2 ⟨rfl, d2, kd, n2⟩
  have k2 : Kp Od w1 w2 := (k0.wide (S := Od)).trans kd
  have n2 : Nb b 1 2 w1 w2 := (Nb.of_kp k0 h2.lt.1 id).trans n2
  have d2 : RD w2 (fun i => Od i ∨ w1.heap.size ≤ i) b 1 (if createE (lastE f.S f.ws) a = 0 then H ++ [lastE f.S f.ws] else H) (if createE (lastE f.S f.ws) a = 0 then with5 (lastE f.S f.ws) a Ds.length else lastE f.S f.ws) := d2
  have z2 := k2.size
  have K2 : Kp O w w2 := K1.then k2 fun x hx hh => g3 x (h8 x hh)
  have c1' : Cs w2 b 0 [dv] := h1.nb k2 n2 (.inl (by simp))
  have c3' := h3.nb k2 n2 (.inr (by omega))
  have row' : OwnRow w2 (fun i => own i ∧ i < w1.heap.size) 72 1 dv Ds.length (flatC ptC Ds) := (h4.mono (own' := fun i => own i ∧ i < w1.heap.size) fun i hi hl => ⟨hi, hl⟩).kp k2 fun g n cap _ hg => (h7 g hg.1).2
  have rl' : RowsAt w2 1 intC rq f.rl := h5.kp k2 fun h0 a e hh => by have := h6 h0 a e; have := h9 _ (h8 _ hh); omega
  have h6 : 0 < f.rl.length → ∀ a, rq = some a → a.block < E := h6
  have d2' : RD w2 (fun i => (Od i ∨ w1.heap.size ≤ i) ∧ i < w2.heap.size) b 1 _ _ := d2.mono fun i hl hi => ⟨hi, hl⟩
  have nO : ∀ i, own i ∧ i < w1.heap.size → ¬ ((Od i ∨ w1.heap.size ≤ i) ∧ i < w2.heap.size) := fun i hi hh => by
    rcases hh.1 with hh | hh
    · exact (h7 i hi.1).2 hh
    · omega
  refine ⟨_, rfl, kd.keeps0, bif_ne (fun hC => ?_) (fun hC => ?_)⟩
  · have eM : mkF f a = cnt f := by unfold mkF; rw [if_neg (by rw [eN]; exact hC)]
    rw [if_neg hC, if_neg hC] at d2'
    rw [eM, eN, if_neg hC]
    refine ⟨_, rfl, rfl, ⟨_, Ds, fun x => Of x ∨ w1.heap.size ≤ x, ⟨dv, _, _, rq, rc, c1', d2', c3', row', rl', h6, fun i hi => ⟨.inl (h7 i hi.1).1, nO i hi⟩, fun i hi => hi.1.imp (h8 i) id, fun i hi => ?_⟩, g2.kp pkR k2 fun x hl hx => ⟨fun hh => hx.2 (h8 x hh), .inl hx.1, fun hh => ?_⟩, fun x hx => ?_, fun x hx => ?_, hst⟩, K2⟩
    · rcases hi with hi | hi
      · exact h9 i hi
      · omega
    · rcases hh with hh | hh
      · exact hx.2 hh
      · omega
    · rcases hx with hx | hx
      · exact .inl (g3 x hx)
      · exact .inr (by omega)
    · rcases hx with hx | hx
      · exact ge x hx
      · omega
  · rw [if_pos hC, if_pos hC] at d2'
    obtain ⟨ok, ee⟩ := create_ok wN hC (Ds.length : Int)
    rw [ee] at d2'
    have hst2 := hst.snoc ok
    have eM : mkF f a = { cnt f with ds := f.ds ++ [emptySt], ws := f.ws ++ [⟨[], a, f.ds.length⟩] } := by unfold mkF; rw [if_pos (by rw [eN]; exact hC)]
    rw [eM, eN, hC, if_pos rfl]
    obtain ⟨qd, cd, rfl⟩ := row'.slice
    have k3 : Kp none_ w2 (w2.alloc (.cells #[.slice none 0 0, .slice none 0 0, .slice none 0 0, .slice none 0 0] 71)) := (Kp.refl none_ _).alloc1 _
    have z3 : (w2.alloc (.cells #[.slice none 0 0, .slice none 0 0, .slice none 0 0, .slice none 0 0] 71)).heap.size = w2.heap.size + 1 := alloc_size _ _
    have B3 : Big (w2.alloc (.cells #[.slice none 0 0, .slice none 0 0, .slice none 0 0, .slice none 0 0] 71)) w2.heap.size 71 [.slice none 0 0, .slice none 0 0, .slice none 0 0, .slice none 0 0] := Big.new _ _ 71
    refine ⟨_, _, _, c1'.get 0 rfl, ?_⟩
    generalize w2.alloc (.cells #[.slice none 0 0, .slice none 0 0, .slice none 0 0, .slice none 0 0] 71) = w3 at *
    have row3 : OwnRow w3 (fun i => own i ∧ i < w1.heap.size) 72 1 (.slice qd Ds.length cd) Ds.length (flatC ptC Ds) := row'.kp k3 fun _ _ _ _ _ => id
    refine push_row (l := Ds) w2.heap.size (cs := #[.pointer (some ⟨w2.heap.size, 0, none⟩)]) ptC_len ptC_one (by omega) und123 elem37 rfl row3 rfl (by omega) fun q' c' w4 ro k4 ka => ?_
    have z4 := k4.size
    have lb1 : b < w1.heap.size := by have := lb.1; omega
    have nb_ : ¬ (own b ∧ b < w1.heap.size) := fun hh => (h7 b hh.1).2 h2.lt.2
    have nd : ¬ (own w2.heap.size ∧ w2.heap.size < w1.heap.size) := fun hh => by omega
    have c1'' := (c1'.kp0 k3).kp k4 nb_
    obtain ⟨s1, s2⟩ := c1''.slot 0 (by simp)
    have bd : b ≠ w2.heap.size := by omega
    refine ⟨_, _, _, rfl, ka.keeps fun i hi => ?_, s1, s2, .inl bd, ?_⟩
    · rw [List.mem_singleton] at hi
      subst hi
      exact ⟨by rw [alloc_size]; omega, nd⟩
    have k5 : Kp (one_ b) w4 (w4.setCell ⟨b, 0, none⟩ (.slice q' (Ds.length + 1) c')) := kp_set _ _ _ _
    have n5 : Nb b 0 1 w4 (w4.setCell ⟨b, 0, none⟩ (.slice q' (Ds.length + 1) c')) := Nb.set w4 (b := b) (o := 0) (i := 0) (by omega) _
    have c5 : Cs (w4.setCell ⟨b, 0, none⟩ (.slice q' (Ds.length + 1) c')) b 0 [.slice q' (Ds.length + 1) c'] := c1''.set 0 _
    have z5 : (w4.setCell ⟨b, 0, none⟩ (.slice q' (Ds.length + 1) c')).heap.size = w4.heap.size := set_size _ _ _
    generalize w4.setCell ⟨b, 0, none⟩ (.slice q' (Ds.length + 1) c') = w5 at *
    have D5 := ((d2'.kp0 k3).kp k4 fun i _ hi => ⟨fun ho => nO i ho hi, hi⟩).nb k5 n5 (.inr (by omega))
    have C5 := ((c3'.kp0 k3).kp k4 nb_).nb k5 n5 (.inr (by omega))
    have R5 : RowsAt w5 1 intC rq f.rl := ((rl'.kp0 k3).kp k4 fun h0 a e hh => by have := h6 h0 a e; have := h9 _ (h7 _ hh.1).1; omega).kp k5 fun h0 a e hh => by have := h6 h0 a e; have := h9 _ (h8 _ h2.lt.2); have hh : a.block = b := hh; omega
    have ro5 : OwnRow w5 (fun i => (own i ∧ i < w1.heap.size) ∨ fresh w3 i) 72 1 (.slice q' (Ds.length + 1) c') (Ds ++ [w2.heap.size]).length (flatC ptC (Ds ++ [w2.heap.size])) := ro.kp k5 fun g n cap _ hg e => by
      have e : g = b := e
      rw [e] at hg
      rcases hg with hg | hg
      · exact nb_ hg
      · have hg : w3.heap.size ≤ b := hg
        omega
    have B5 := (B3.kp k4 nd).kp k5 (fun e => bd e.symm)
    have p5 := RDsk.new B5.lt (fun o => B5.frz o) (B5.cell 0) (B5.cell 1) (B5.cell 2) (B5.cell 3)
    have K5 : Kp (fun x => O x ∧ Of x) w1 w5 := (((k2.mono fun x _ hh => ⟨g3 x (h8 x hh), h8 x hh⟩).trans k3.wide).then k4 fun x hx hh => ⟨g3 x (h7 x hh.1).1, (h7 x hh.1).1⟩).trans (k5.mono fun x _ hx => by have hx : x = b := hx; rw [hx]; exact ⟨lb.2, h8 _ h2.lt.2⟩)
    have dk := (g2.kp pkR K5 (Q' := fun x => (O x ∧ ¬ Of x) ∧ x < w1.heap.size) fun x hl hx => ⟨fun hh => hx.2 hh.2, hx, hl⟩).snoc pkR p5 (fun hh => by omega)
    have eL : doL (lastE f.S f.ws) ⟨[], a, Ds.length⟩ = lastE f.S (f.ws ++ [⟨[], a, f.ds.length⟩]) := by rw [last_snoc, hlen]
    rw [eL] at D5 hst2
    rw [hlen] at hst2
    have fin : FRD E w5 (fun x => O x ∨ w.heap.size ≤ x) b { cnt f with ds := f.ds ++ [emptySt], ws := f.ws ++ [⟨[], a, f.ds.length⟩] } (H ++ [lastE f.S f.ws]) := by
      refine ⟨Ds ++ [w2.heap.size], fun x => Of x ∨ (w1.heap.size ≤ x ∧ x ≠ w2.heap.size), ⟨_, _, _, rq, rc, c5, D5, C5, ro5, R5, h6, fun i hi => ?_, fun i hi => ?_, fun i hi => ?_⟩, dk.kp pkR (Kp.refl none_ _) fun x hl hx => ⟨id, ?_⟩, fun x hx => ?_, fun x hx => ?_, hst2⟩
      · rcases hi with hi | hi
        · exact ⟨.inl (h7 i hi.1).1, nO i hi⟩
        · have hi : w3.heap.size ≤ i := hi
          exact ⟨.inr ⟨by omega, by omega⟩, fun hh => by have := hh.2; omega⟩
      · rcases hi.1 with hh | hh
        · exact .inl (h8 i hh)
        · exact .inr ⟨hh, by have := hi.2; omega⟩
      · rcases hi with hi | hi
        · exact h9 i hi
        · omega
      · rcases hx with ⟨hx, hl1⟩ | rfl
        · exact ⟨.inl hx.1, fun hh => by rcases hh with hh | hh; exact hx.2 hh; omega⟩
        · exact ⟨.inr (by omega), fun hh => by rcases hh with hh | hh; exact absurd (hO _ (g3 _ hh)) (by omega); exact hh.2 rfl⟩
      · rcases hx with hx | hx
        · exact .inl (g3 x hx)
        · exact .inr (by omega)
      · rcases hx with hx | hx
        · exact ge x hx
        · omega
    refine ⟨_, _, _, c5.get 0 rfl, wr64 (by omega) fun _ => ⟨_, rfl, ?_, ⟨_, fin⟩, K1.then K5 fun x hx hh => hh.1⟩⟩
    rw [← hlen, show ((Ds.length + 1 : Nat) : Int) - 1 = (Ds.length : Int) by omega]
end Go.Proofs.YtlgkcbdpaffigaaGreat

namespace Go.Proofs.YtlgkcbdpaffigaaGreat
open Go Go.SX Go.Proofs
set_option maxRecDepth 100000
set_option linter.unusedVariables false
set_option linter.unusedSimpArgs false
theorem keepsA_alike (s : St) {n1 n2 : Nat} {k1 k2 : Nat → Bool} : ∀ m, (∀ k, k < m → ((k < n1 ∧ k1 k = true) ↔ (k < n2 ∧ k2 k = true))) → keepsA s n1 k1 m = keepsA s n2 k2 m
  | 0, _ => rfl
  | m + 1, h => by
    have ih := keepsA_alike s (n1 := n1) (n2 := n2) (k1 := k1) (k2 := k2) m fun k hk => h k (by omega)
    unfold keepsA
    rw [ih]
    cases s.wait[m]? with
    | none => rfl
    | some e =>
      by_cases hc : m < n1 ∧ k1 m = true
      · simp only [if_pos hc, if_pos ((h m (by omega)).1 hc)]
      · simp only [if_neg hc, if_neg fun hh => hc ((h m (by omega)).2 hh)]
def bl (n : Nat) (kb : Nat → Bool) (at_ m : Nat) : List Bool := (List.range m).map fun k => decide (at_ + k < n) && kb (at_ + k)
theorem bl_len (n : Nat) (kb : Nat → Bool) (at_ m : Nat) : (bl n kb at_ m).length = m := by simp [bl]
theorem bl_succ (n : Nat) (kb : Nat → Bool) (at_ m : Nat) : bl n kb at_ (m + 1) = bl n kb at_ m ++ [decide (at_ + m < n) && kb (at_ + m)] := by simp [bl, List.range_succ]
theorem crash_alike (s : St) (n : Nat) (kb : Nat → Bool) (at_ : Nat) (fill : Int) : crashSt s s.wait.length (fun k => decide (at_ + k < n) && kb (at_ + k)) fill = crashSt s (min s.wait.length (n - min n at_)) (fun i => kb (min n at_ + i)) fill := by
  unfold crashSt
  congr 1
  have hw := (crashA_same s fill s.size).2.2.2
  refine keepsA_alike _ _ fun k hk => ?_
  simp only [Bool.and_eq_true, decide_eq_true_eq]
  by_cases hn : at_ < n
  · rw [show min n at_ = at_ by omega]
    constructor
    · rintro ⟨a, b, c⟩; exact ⟨by omega, c⟩
    · rintro ⟨a, c⟩; exact ⟨hk, by omega, c⟩
  · constructor
    · rintro ⟨a, b, c⟩; omega
    · rintro ⟨a, c⟩; omega
theorem runs_mono {P : Program} {m : Sem Value} {w : World} {K K' : Value → World → Prop} (h : Runs P m w K) (f : ∀ v w', K v w' → K' v w') : Runs P m w K' := by
  obtain ⟨v, w', e, k⟩ := h
  exact ⟨v, w', e, f _ _ k⟩
def boC (x : Bool) : List Value := [.bool x]
theorem boC_len (x : Bool) : (boC x).length = 1 := rfl
theorem boC_one (x : Bool) : ∀ u ∈ boC x, u.oneCell' = true := fun u hu => by
  simp only [boC, List.mem_cons, List.not_mem_nil, or_false] at hu
  subst hu
  rfl
theorem elem4x : elemOk Tryz.prog 4 1 = true := by kernel_rfl
variable {E : Nat} {w w' : World} {O O' : Nat → Prop} {b : Nat} {f : Fst} {H : List (List Ent)}
theorem sumW_le (ds : List St) (hw : ∀ s ∈ ds, s.wait.length ≤ 90000) : ∀ j, j ≤ ds.length → sumW ds j ≤ 90000 * j
  | 0, _ => by simp [sumW]
  | j + 1, h => by
    have := sumW_le ds hw j (by omega)
    have := hw _ (List.mem_of_getElem? (getD_get ds emptySt (i := j) (by omega)))
    show sumW ds j + _ ≤ _
    omega
theorem c74 (h : FRD E w O b f H) (o : Fok f) (hO : ∀ x, O x → x < w.heap.size) {q : Option Addr} {n cp : Nat} {kb : Nat → Bool} (hb : Bools w q n kb) (hq : 0 < n → ∀ a, q = some a → ¬ O a.block ∧ a.block < w.heap.size) (nm fill : Int) (hf : isByte fill) (hw : ∀ s ∈ f.ds, s.wait.length ≤ 90000) :
    Rets Tryz.prog 28 #[ptA b 0, .agg #[.slice q n cp, .int .i64 nm, .int .u8 fill]] w fun v w' => v = .tuple #[] ∧ (∃ H', FRD E w' (fun x => O x ∨ w.heap.size ≤ x) b (crashF f n kb nm fill) H') ∧ Kp O w w' := by
  refine ent [_, _] Tryz.func28 ((vcTryz28 _ _ _ _ _ _ w _).mpr ?_)
  unfold VCTryz28
  have lb := h.lt
  have sz := h.szE
  have hst := h.hst
  obtain ⟨Ds, Of, h1, h2, h3, h4, h5⟩ := h
  have hlen := h2.len
  have hdl := o.dsl
  have ka : Kp none_ w (w.alloc (.cells #[.slice q n cp, .int .i64 nm, .int .u8 fill] 33)) := (Kp.refl none_ _).alloc1 _
  have za : (w.alloc (.cells #[.slice q n cp, .int .i64 nm, .int .u8 fill] 33)).heap.size = w.heap.size + 1 := alloc_size _ _
  generalize w.alloc (.cells #[.slice q n cp, .int .i64 nm, .int .u8 fill] 33) = wa at *
  have OfE : ∀ x, Of x → E ≤ x := fun x hx => h4 x (h3 x hx)
  refine ⟨fun i at_ w' => ∃ j : Nat, i = j ∧ j ≤ f.ds.length ∧ at_ = sumW f.ds j ∧ FRM E w' Of b Ds H (lastE f.S f.ws) f.cap f.k f.r f.rl ∧ Dks RDsk w' (fun x => (O x ∨ wa.heap.size ≤ x) ∧ ¬ Of x) Ds (crDs f.ds n kb fill j) ∧ Kp O w w' ∧ wa.heap.size ≤ w'.heap.size, fun i _ _ => (f.ds.length - i).toNat, ⟨0, rfl, by omega, rfl, h1.kp ka (fun i hi => hi.elim) (fun x _ hx => ⟨id, hx⟩) OfE, h2.kp pkR ka fun x hl hx => ⟨id, .inl hx.1, hx.2⟩, ka.wide, Nat.le_refl _⟩, ?_⟩
  rintro i at_ w1 ⟨j, rfl, hj, rfl, m1, m2, k1, z1⟩ _
  simp only [ptr_some, ad3, Nat.zero_add, Nat.add_zero]
  obtain ⟨q6, c6, e6, r6, _⟩ := m1.disks
  have hbW : ∀ {W : World}, Kp none_ w1 W → Bools W q n kb := fun kW => (hb.kp k1 fun h0 a e => (hq h0 a e).1).kp kW fun _ _ _ => id
  refine ⟨_, _, _, e6, bif_dec (fun hi => ?_) (fun hi => ?_)⟩
  · have hjl : j < f.ds.length := by omega
    have hjD : j < Ds.length := by omega
    obtain ⟨col, p, cO, put⟩ := m2.at pkR (i := j) (by rw [crDs_len]; exact hjl)
    have eD : Ds.getD j 0 = Ds[j] := by rw [List.getD_eq_getElem?_getD, List.getElem?_eq_getElem hjD]; rfl
    rw [eD] at p put
    rw [crDs_get _ _ _ _ _ _ (Nat.le_refl j)] at p
    have hmem : f.ds.getD j emptySt ∈ f.ds := List.mem_of_getElem? (getD_get f.ds emptySt hjl)
    have hwl := hw _ hmem
    have hsw := sumW_le f.ds hw j hj
    refine ⟨fun m at_ q13 n14 n15 w' => ∃ m' : Nat, m = m' ∧ m' ≤ (f.ds.getD j emptySt).wait.length ∧ at_ = sumW f.ds j + m' ∧ n14 = m' ∧ OwnRow w' (fun x => w1.heap.size ≤ x) 4 1 (.slice q13 n14 n15) m' (flatC boC (bl n kb (sumW f.ds j) m')) ∧ Kp none_ w1 w', fun m _ _ _ _ _ => ((f.ds.getD j emptySt).wait.length - m).toNat, ⟨0, rfl, by omega, by simp, rfl, OwnRow.nil _ _ _ _, Kp.refl _ _⟩, ?_⟩
    rintro m at_ q13 n14 n15 w2 ⟨m', rfl, hm, rfl, rfl, ro, k2⟩ _
    have z2 := k2.size
    refine ⟨_, _, _, k2.cell0 e6, ⟨by omega, hi⟩, (r6.kp0 k2).get hjD fun a ea hc => ⟨_, (cell_add0 _ _).symm.trans (hc 0 _ rfl), ?_⟩⟩
    simp only [ptr_some, ad3, Nat.zero_add, Nat.add_zero]
    obtain ⟨q3, c3, e3, _⟩ := p.wait
    have more : ∀ t : Bool, t = (decide (sumW f.ds j + n14 < n) && kb (sumW f.ds j + n14)) → n14 < (f.ds.getD j emptySt).wait.length → Runs Tryz.prog (Builtin.append_ #[31, 31] 31 #[.slice q13 n14 n15, .slice (some ⟨w2.heap.size, 0, none⟩) 1 1]) (w2.alloc (.cells #[.bool t] 4)) fun v w3 => ∃ q31 n32 n33, v = .slice q31 n32 n33 ∧ Keeps (w2.alloc (.cells #[.bool t] 4)) w3 [w.heap.size] ∧ n32 = n14 + 1 ∧ OwnRow w3 (fun x => w1.heap.size ≤ x) 4 1 (.slice q31 n32 n33) (n14 + 1) (flatC boC (bl n kb (sumW f.ds j) (n14 + 1))) ∧ Kp none_ w1 w3 := fun t et hlt => by
      refine push_row (l := bl n kb (sumW f.ds j) n14) t (cs := #[.bool t]) boC_len boC_one (by omega) Tryz.underlying31 elem4x rfl ro (by rw [bl_len]) (by rw [bl_len]; omega) fun q' c' w3 ro' k3 kk => ?_
      rw [bl_len] at ro' ⊢
      have z3 := k3.size
      refine ⟨_, _, _, rfl, kk.keeps fun x hx => ?_, rfl, ?_, k2.then k3 fun x hx hh => by omega⟩
      · rw [List.mem_singleton] at hx
        subst hx
        exact ⟨by rw [alloc_size]; omega, fun hh => by have hh : w1.heap.size ≤ w.heap.size := hh; omega⟩
      · rw [bl_succ, ← et]
        have ro'' : OwnRow w3 (fun i => (fun x => w1.heap.size ≤ x) i ∨ fresh w2 i) 4 1 (.slice q' (n14 + 1) c') (n14 + 1) (flatC boC (bl n kb (sumW f.ds j) n14 ++ [t])) := by
          have := ro'
          rw [List.length_append, bl_len] at this
          exact this
        exact ro''.mono fun x hx hl => by
          rcases hx with hx | hx
          · exact hx
          · have hx : w2.heap.size ≤ x := hx; show w1.heap.size ≤ x; omega
    refine ⟨_, _, _, k2.cell0 e3, bif_dec (fun hm2 => bif_dec (fun hat => ?_) (fun hat => ?_)) (fun hm2 => ?_)⟩
    · have hat : (sumW f.ds j : Int) + (n14 : Int) < n := hat
      obtain ⟨a, ea, ha⟩ := hbW k2 (sumW f.ds j + n14) (by omega)
      refine ⟨⟨by omega, hat⟩, ?_⟩
      rw [ea, ptr_some]
      refine ⟨kb (sumW f.ds j + n14), ?_, runs_mono (more _ (by rw [decide_eq_true (by omega), Bool.true_and]) (by omega)) fun v w3 hv => ?_⟩
      · rw [Nat.mul_one, show ((sumW f.ds j : Int) + (n14 : Int)).toNat = sumW f.ds j + n14 by omega]
        exact ha
      · obtain ⟨q31, n32, n33, rfl, hk, rfl, ro3, k3⟩ := hv
        exact ⟨_, _, _, rfl, hk, wr64 (by omega) (wr64 (by omega) ⟨rfl, ⟨n14 + 1, by omega, by omega, by omega, rfl, ro3, k3⟩, by first | omega | (dsimp only; omega)⟩)⟩
    · have hat : ¬ (sumW f.ds j : Int) + (n14 : Int) < n := hat
      refine runs_mono (more false (by rw [decide_eq_false (by omega), Bool.false_and]) (by omega)) fun v w3 hv => ?_
      obtain ⟨q31, n32, n33, rfl, hk, rfl, ro3, k3⟩ := hv
      exact ⟨_, _, _, rfl, hk, wr64 (by omega) (wr64 (by omega) ⟨rfl, ⟨n14 + 1, by omega, by omega, by omega, rfl, ro3, k3⟩, by first | omega | (dsimp only; omega)⟩)⟩
    · have em : n14 = (f.ds.getD j emptySt).wait.length := by omega
      have k3 : Kp none_ w1 w2.drew := k2.drew
      have rw_ := rwIn_of (Q := fun x => w1.heap.size ≤ x) boC_len (by omega) (l := bl n kb (sumW f.ds j) n14) (by rw [bl_len]; exact ro) fun i hi => hi
      have hbb : Bools w2.drew q13 n14 (fun k => decide (sumW f.ds j + k < n) && kb (sumW f.ds j + k)) := fun k hk => by
        obtain ⟨a, ea, hc⟩ := rw_.1 k (by rw [bl_len]; exact hk)
        refine ⟨a, ea, ?_⟩
        have := hc 0 _ rfl
        rw [Nat.mul_one, cell_add0] at this
        have e : (bl n kb (sumW f.ds j) n14)[k]'(by rw [bl_len]; exact hk) = (decide (sumW f.ds j + k < n) && kb (sumW f.ds j + k)) := by simp [bl]
        rw [e] at this
        exact this
      refine ⟨_, _, _, k3.cell0 e6, ⟨by omega, hi⟩, (r6.kp0 k3).get hjD fun a ea hc => ⟨_, (cell_add0 _ _).symm.trans (hc 0 _ rfl), fun _ => ?_⟩⟩
      refine (c60 (p.kp0 k3) hbb (fun h0 a e => ?_) fill hf (by omega)).mono ?_
      · have := rw_.2 (by rw [bl_len]; exact h0) a e
        by_cases ec : col a.block = 0
        · exact ec
        · have := p.lt _ ec; omega
      · rintro v w3 ⟨rfl, k4, p4⟩
        have kk := (k3.wide (S := ownC col)).trans k4
        have z3 := kk.size
        have nS : ¬ ownC col w.heap.size := fun hh => by
          rcases (cO _ hh).1 with hx | hx
          · have := hO _ hx; omega
          · omega
        rw [em, crash_alike] at p4
        have P4 := put kk (Grow.refl p.lt kk.size) p4
        refine ⟨rfl, k4.keeps fun x hx => ⟨by rw [List.mem_singleton] at hx; show x < w2.heap.size; omega, by rw [List.mem_singleton] at hx; rw [hx]; exact nS⟩, wr64 (by omega) ⟨rfl, ⟨j + 1, by omega, by omega, ?_, ?_, ?_, ?_, by omega⟩, by first | omega | (dsimp only; omega)⟩⟩
        · show (sumW f.ds j : Int) + (n14 : Int) = ((sumW f.ds j + (f.ds.getD j emptySt).wait.length : Nat) : Int)
          omega
        · exact m1.kp kk (fun x hx => by
            rcases (cO x hx).1 with hy | hy
            · exact h4 x hy
            · omega) (fun x hl hx => ⟨fun hh => (cO x hh).2 hx, hx⟩) OfE
        · exact P4.kp pkR (Kp.refl none_ _) fun x hl hx => ⟨id, by
            rcases hx with hx | hx
            · exact hx
            · exact ⟨.inr (by omega), fun hh => by have := hO x (h3 x hh); omega⟩⟩
        · exact k1.then kk fun x hx hh => by
            rcases (cO x hh).1 with hy | hy
            · exact hy
            · omega
  · have ej : j = f.ds.length := by omega
    subst ej
    have k0 : Kp none_ w1 w1.drew := Kp.drew1
    have F1 : FRD E w1.drew (fun x => O x ∨ (wa.heap.size ≤ x ∧ x < w1.heap.size)) b { f with ds := crDs f.ds n kb fill f.ds.length } H := ⟨Ds, Of, m1.kp k0 (fun i hi => hi.elim) (fun x _ hx => ⟨id, hx⟩) OfE, m2.kp pkR k0 fun x hl hx => ⟨id, hx.1.imp id fun hh => ⟨hh, hl⟩, hx.2⟩, fun x hx => .inl (h3 x hx), fun x hx => by
      rcases hx with hx | hx
      · exact h4 x hx
      · omega, hst⟩
    obtain ⟨Od, d, dO, go⟩ := F1.dirOp
    have d : RD w1.drew Od b 1 H (lastE f.S f.ws) := d
    intro _
    refine (c81 d nm).mono ?_
    rintro v w2 ⟨rfl, d2, k2, n2⟩
    have z2 : w1.heap.size ≤ w2.heap.size := k2.size
    have F2 := go (d2.mono fun i _ hi => .inl hi) k2 n2 (hst.crash nm)
    have lb2 := F2.lt
    obtain ⟨Ds', Of', ⟨dv, own, Od', rq, rc, x1, x2, x3, x4, x5, x6, x7, x8, x9⟩, y2, y3, y4, y5⟩ := F2
    have kk : Kp (one_ b) w2 (w2.setCell ⟨b, 6, none⟩ (.slice none 0 0)) := kp_set _ _ _ _
    have nb : Nb b 3 4 w2 (w2.setCell ⟨b, 6, none⟩ (.slice none 0 0)) := Nb.set w2 (b := b) (o := 3) (i := 3) (by omega) _
    have cc := x3.set 3 (.slice none 0 0)
    have nDo : ¬ Od w.heap.size := fun hh => by
      rcases dO _ hh with hy | hy
      · have := hO _ hy; omega
      · omega
    refine ⟨rfl, k2.keeps fun x hx => ⟨by rw [List.mem_singleton] at hx; show x < w1.heap.size; omega, by rw [List.mem_singleton] at hx; rw [hx]; exact nDo⟩, (x3.slot 3 (by simp)).1, (x3.slot 3 (by simp)).2, .inl fun e => by have e : b = w.heap.size := e; omega, fun _ => ⟨_, rfl, rfl, ⟨[], ?_⟩, ?_⟩⟩
    · have G : FRD E (w2.setCell ⟨b, 6, none⟩ (.slice none 0 0)) (fun x => (O x ∨ (wa.heap.size ≤ x ∧ x < w1.heap.size)) ∨ w1.drew.heap.size ≤ x) b (crashF f n kb nm fill) [] := ⟨Ds', Of', ⟨dv, own, Od', none, 0, x1.nb kk nb (.inl (by simp)), x2.nb kk nb (.inl (by omega)), cc, x4.kp kk (fun g n cap _ hg e => by have e : g = b := e; rw [e] at hg; exact (x7 b hg).2 x2.lt.2), (fun i hi => absurd hi (by show ¬ i < 0; omega)), (fun h0 => absurd h0 (by show ¬ 0 < 0; omega)), x7, x8, x9⟩, y2.kp pkR kk fun x hl hx => ⟨fun e => hx.2 (by have e : x = b := e; rw [e]; exact x8 _ x2.lt.2), hx⟩, y3, y4, y5⟩
      refine G.kp (Kp.refl none_ _) (fun i hi => hi.elim) (fun x hl hx => ⟨id, ?_⟩) fun x hx => ?_
      · rcases hx with (hx | hx) | hx
        · exact .inl hx
        · exact .inr (by omega)
        · exact .inr (by have hx : w1.heap.size ≤ x := hx; omega)
      · rcases hx with hx | hx
        · exact h4 x hx
        · omega
    · refine (k1.drew.then k2 fun x hx hh => ?_).trans (kk.mono fun x _ hx => by have hx : x = b := hx; rw [hx]; exact lb.2)
      rcases dO x hh with hy | hy
      · exact hy
      · omega
end Go.Proofs.YtlgkcbdpaffigaaGreat

namespace Go.Proofs.YtlgkcbdpaffigaaGreat
open Go Go.SX Go.Proofs
set_option maxRecDepth 100000
set_option linter.unusedVariables false
set_option linter.unusedSimpArgs false
variable {E : Nat} {w w' : World} {O O' : Nat → Prop} {b : Nat} {f : Fst} {H : List (List Ent)}
def newFst (cap : Int) : Fst := ⟨[], [], [], maxI 0 (minI 65536 cap), 0, 0, []⟩
theorem cap_range (cap : Int) : 0 ≤ maxI 0 (minI 65536 cap) ∧ maxI 0 (minI 65536 cap) ≤ 65536 := by
  unfold maxI minI
  split <;> split <;> omega
theorem newFst_ok (cap : Int) : Fok (newFst cap) := ⟨wfE_nil, trivial, Nat.zero_le _, Nat.zero_le _, ⟨Int.le_refl _, by show (0 : Int) ≤ 100000; omega⟩, ⟨Int.le_refl _, by show (0 : Int) ≤ 100000; omega⟩, Nat.zero_le _, cap_range cap⟩
theorem c24F (cap : Int) (w : World) : Rets Tryz.prog 7 #[.int .i64 cap] w fun v w' => v = ptA w.heap.size 0 ∧ FSD w' (fun i => w.heap.size ≤ i) w.heap.size (newFst cap) ∧ Kp none_ w w' := by
  refine (c24 cap w).mono ?_
  rintro v w' ⟨rfl, h, k⟩
  exact ⟨rfl, ⟨[], _, h, Dks.nil _ _ _, fun x hx => hx⟩, k⟩
theorem alloc_k3 (w : World) (cs : Array Value) (e : TypeId) : Kp none_ w (w.alloc (.cells cs e)) ∧ (w.alloc (.cells cs e)).heap.size = w.heap.size + 1 ∧ Big (w.alloc (.cells cs e)) w.heap.size e cs.toList := ⟨(Kp.refl none_ _).alloc1 _, alloc_size _ _, Big.new _ _ _⟩
theorem frm_new (hE : E ≤ w.heap.size) (cv cap : Int) (hc : cv = maxI 0 (minI 65536 cap)) : FRD E (w.alloc (.cells #[.slice none 0 0, .slice none 0 0, .slice none 0 0, .int .i64 cv, .int .i64 0, .int .i64 0, .slice none 0 0] 46)) (fun i => w.heap.size ≤ i) w.heap.size (newFst cap) [] ∧ Kp none_ w (w.alloc (.cells #[.slice none 0 0, .slice none 0 0, .slice none 0 0, .int .i64 cv, .int .i64 0, .int .i64 0, .slice none 0 0] 46)) := by
  subst hc
  obtain ⟨ka, za, Ba⟩ := alloc_k3 w #[.slice none 0 0, .slice none 0 0, .slice none 0 0, .int .i64 (maxI 0 (minI 65536 cap)), .int .i64 0, .int .i64 0, .slice none 0 0] 46
  generalize w.alloc (.cells #[.slice none 0 0, .slice none 0 0, .slice none 0 0, .int .i64 (maxI 0 (minI 65536 cap)), .int .i64 0, .int .i64 0, .slice none 0 0] 46) = W at *
  have sub : ∀ (o : Nat) (vs : List Value), (∀ j v, vs[j]? = some v → ([.slice none 0 0, .slice none 0 0, .slice none 0 0, .int .i64 (maxI 0 (minI 65536 cap)), .int .i64 0, .int .i64 0, .slice none 0 0] : List Value)[o + j]? = some v) → Cs W w.heap.size o vs := fun o vs h j v hv => ⟨by rw [Ba.cell]; exact h j v hv, Ba.frz _⟩
  refine ⟨⟨[], fun i => w.heap.size ≤ i, ⟨.slice none 0 0, none_, fun i => i = w.heap.size, none, 0, sub 0 _ ?_, RD.zero (sub 1 _ ?_) (fun i => i = w.heap.size) rfl, sub 3 _ ?_, OwnRow.nil _ _ _ _, (fun i hi => absurd hi (by show ¬ i < 0; omega)), (fun h0 => absurd h0 (by show ¬ 0 < 0; omega)), (fun i hi => hi.elim), (fun i hi => by omega), fun i hi => by omega⟩, Dks.nil _ _ _, fun x hx => hx, fun x hx => by omega, wfE_nil, trivial, rfl⟩, ka⟩
  all_goals
    intro j v hv
    match j, hv with
    | 0, hv => exact hv
    | 1, hv => first | exact hv | (simp at hv)
    | 2, hv => first | exact hv | (simp at hv)
    | 3, hv => first | exact hv | (simp at hv)
    | j + 4, hv => simp at hv
theorem c25 (cap : Int) (w : World) (hE : E ≤ w.heap.size) : Rets Tryz.prog 8 #[.int .i64 cap] w fun v w' => v = ptA w.heap.size 0 ∧ FRD E w' (fun i => w.heap.size ≤ i) w.heap.size (newFst cap) [] ∧ Kp none_ w w' := by
  refine ent [_] Tryz.func8 ((vcTryz8 _ w _).mpr ?_)
  unfold VCTryz8
  refine bif_dec (fun h _ => ?_) (fun h => bif_dec (fun h2 _ => ?_) (fun h2 _ => ?_))
  · exact ⟨_, rfl, rfl, frm_new hE 0 cap (by unfold maxI minI; split <;> split <;> omega)⟩
  · exact ⟨_, rfl, rfl, frm_new hE 65536 cap (by unfold maxI minI; split <;> split <;> omega)⟩
  · exact ⟨_, rfl, rfl, frm_new hE cap cap (by unfold maxI minI; split <;> split <;> omega)⟩
end Go.Proofs.YtlgkcbdpaffigaaGreat

namespace Go.Proofs.YtlgkcbdpaffigaaGreat
open Go Go.SX Go.Proofs
set_option maxRecDepth 100000
set_option linter.unusedVariables false
set_option linter.unusedSimpArgs false
/-- A call, as it stands in memory. -/
structure Opz where
  k : Int
  id : Int
  at_ : Int
  a : List UInt8
  t : List UInt8
  qb : Option Addr
  nb : Nat
  cb : Nat
  qk : Option Addr
  nk : Nat
  ck : Nat
  nm : Int
  fill : Int
  qn : Option Addr
  nn : Nat
  cn : Nat
def opzC (x : Opz) : List Value := [.int .i64 x.k, .int .i64 x.id, .int .i64 x.at_, .string (ba x.a), .string (ba x.t), .slice x.qb x.nb x.cb, .slice x.qk x.nk x.ck, .int .i64 x.nm, .int .u8 x.fill, .slice x.qn x.nn x.cn]
structure Opz.Small (x : Opz) : Prop where
  nb : x.nb ≤ 3000
  at_ : x.at_ ≤ 20000 ∨ 2097152 < x.at_
  nn : x.nn ≤ 50
  nk : x.nk ≤ 500
theorem c22 {w : World} {q : Option Addr} {c : Nat} {l : List Opz} (h : RowsAt w 10 opzC q l) : Rets Tryz.prog 5 #[.slice q l.length c] w fun v w' => w' = w ∧ ∃ t, v = .bool t ∧ (t = false → l.length ≤ 60 ∧ ∀ x ∈ l, x.Small) := by
  refine ent [_] Tryz.func5 ((vcTryz5 _ _ _ w _).mpr ?_)
  unfold VCTryz5
  have yes : ∃ v, Ending.returned (.bool true) = Ending.returned v ∧ w = w ∧ ∃ t, v = .bool t ∧ (t = false → l.length ≤ 60 ∧ ∀ x ∈ l, x.Small) := ⟨_, rfl, rfl, _, rfl, fun e => by cases e⟩
  refine ⟨fun i w' => ∃ j : Nat, i = j ∧ j ≤ 100 ∧ w' = w ∧ ∀ k (hk : k < l.length), k < j → l[k].Small, fun i _ => (l.length - i).toNat, ⟨0, rfl, by omega, rfl, fun k hk h => by omega⟩, ?_⟩
  rintro i w1 ⟨j, rfl, h1, rfl, hs⟩
  refine bif_dec (fun hi => bif_dec (fun hj => ?_) (fun hj => ?_)) (fun hi => ?_)
  · have hl : j < l.length := by omega
    have get : ∀ {K : Addr → Prop}, (∀ a, (∀ m u, (opzC l[j])[m]? = some u → w1.cell? ((a.add ((j : Int).toNat * 10)).add m) = some u) → K a) → ((0 : Int) ≤ j ∧ (j : Int) < l.length) ∧ SX.Ptr q K := fun hK => ⟨⟨by omega, hi⟩, h.get hl fun a _ hc => hK a hc⟩
    have next : l[j].Small → ∀ {P : Int → Prop}, P (j + 1 : Int) → Wr .i64 ((j : Int) + 1) P := fun _ {P} hP => wr64 (by omega) hP
    have step : l[j].Small → ∃ j' : Nat, ((j : Int) + 1) = j' ∧ j' ≤ 100 ∧ w1 = w1 ∧ ∀ k (hk : k < l.length), k < j' → l[k].Small := fun hsm => ⟨j + 1, by omega, by omega, rfl, fun k hk hkj => by
      by_cases e : k = j
      · subst e; exact hsm
      · exact hs k hk (by omega)⟩
    refine get fun a hc => ⟨_, _, _, hc 5 _ rfl, bif_dec (fun _ => yes) (fun b1 => get fun a hc => ⟨_, hc 2 _ rfl, ?_⟩)⟩
    have tail : (l[j].at_ ≤ 20000 ∨ 2097152 < l[j].at_) → ∀ {P : Int → Prop}, (l[j].Small → P (j + 1 : Int)) → ((0 : Int) ≤ j ∧ (j : Int) < l.length) ∧ SX.Ptr q fun a12 => ∃ s13 : ByteArray, w1.cell? ((a12.add ((j : Int).toNat * 10)).add 3) = some (.string s13) ∧ bif decide ((↑s13.size : Int) > 300) then (∃ v, Ending.returned (.bool true) = Ending.returned v ∧ w1 = w1 ∧ ∃ t, v = .bool t ∧ (t = false → l.length ≤ 60 ∧ ∀ x ∈ l, x.Small)) else ((0 : Int) ≤ j ∧ (j : Int) < l.length) ∧ SX.Ptr q fun a14 => ∃ s15 : ByteArray, w1.cell? ((a14.add ((j : Int).toNat * 10)).add 4) = some (.string s15) ∧ bif decide ((↑s15.size : Int) > 300) then (∃ v, Ending.returned (.bool true) = Ending.returned v ∧ w1 = w1 ∧ ∃ t, v = .bool t ∧ (t = false → l.length ≤ 60 ∧ ∀ x ∈ l, x.Small)) else ((0 : Int) ≤ j ∧ (j : Int) < l.length) ∧ SX.Ptr q fun a16 => ∃ (q17 : Option Addr) (n18 n19 : Nat), w1.cell? ((a16.add ((j : Int).toNat * 10)).add 9) = some (.slice q17 n18 n19) ∧ bif decide ((n18 : Int) > 50) then (∃ v, Ending.returned (.bool true) = Ending.returned v ∧ w1 = w1 ∧ ∃ t, v = .bool t ∧ (t = false → l.length ≤ 60 ∧ ∀ x ∈ l, x.Small)) else ((0 : Int) ≤ j ∧ (j : Int) < l.length) ∧ SX.Ptr q fun a20 => ∃ (q21 : Option Addr) (n22 n23 : Nat), w1.cell? (((a20.add ((j : Int).toNat * 10)).add 6).add 0) = some (.slice q21 n22 n23) ∧ bif decide ((n22 : Int) > 500) then (∃ v, Ending.returned (.bool true) = Ending.returned v ∧ w1 = w1 ∧ ∃ t, v = .bool t ∧ (t = false → l.length ≤ 60 ∧ ∀ x ∈ l, x.Small)) else Wr .i64 ((j : Int) + 1) P := fun b2 {P} hP =>
      get fun a hc => ⟨_, hc 3 _ rfl, bif_dec (fun _ => yes) (fun _ => get fun a hc => ⟨_, hc 4 _ rfl, bif_dec (fun _ => yes) (fun _ => get fun a hc => ⟨_, _, _, hc 9 _ rfl, bif_dec (fun _ => yes) (fun b3 => get fun a hc => ⟨_, _, _, by rw [cell_add0]; exact hc 6 _ rfl, bif_dec (fun _ => yes) (fun b4 => wr64 (by omega) (hP ⟨by omega, b2, by omega, by omega⟩))⟩)⟩)⟩)⟩
    refine bif_dec (fun b2 => get fun a hc => ⟨_, hc 2 _ rfl, bif_dec (fun _ => yes) (fun b3 => tail (.inr (by omega)) fun hsm => ⟨step hsm, by first | omega | (dsimp only; omega)⟩)⟩) (fun b2 => tail (.inl (by omega)) fun hsm => ⟨step hsm, by first | omega | (dsimp only; omega)⟩)
  · exact ⟨_, rfl, rfl, _, rfl, fun e => by have := of_decide_eq_false e; omega⟩
  · exact ⟨_, rfl, rfl, _, rfl, fun e => ⟨by have := of_decide_eq_false e; omega, fun x hx => by
      obtain ⟨k, hk, rfl⟩ := List.getElem_of_mem hx
      exact hs k hk (by omega)⟩⟩
end Go.Proofs.YtlgkcbdpaffigaaGreat

namespace Go.Proofs.YtlgkcbdpaffigaaGreat
open Go Go.SX Go.Proofs
set_option maxRecDepth 100000
set_option linter.unusedVariables false
set_option linter.unusedSimpArgs false
def Dbl (E : Nat) (w : World) (Q : Nat → Prop) (bp bm : Nat) (f : Fst) : Prop :=
  ∃ (Op Om : Nat → Prop) (H : List (List Ent)), FSD w Op bp f ∧ FRD E w Om bm f H ∧ (∀ i, Op i → ¬ Om i) ∧ (∀ i, Op i ∨ Om i → Q i ∧ i < w.heap.size) ∧ ∀ i, Op i → E ≤ i
def opF (f : Fst) (x : Opz) (bf : Int → Int) (kb : Nat → Bool) (nl : List Int) : Fst :=
  if x.k = 0 then mkF f x.a else if x.k = 1 then (wrF f x.id x.at_ x.nb bf).2 else if x.k = 2 then (syF f x.id).2 else if x.k = 3 then (sdF f).2 else if x.k = 4 then (rnF f x.a x.t).2 else if x.k = 5 then (rmF f x.a).2 else if x.k = 6 then crashF f x.nk kb x.nm x.fill else { f with rl := nl }
/-- What a call has in memory. -/
structure OpzIn (E : Nat) (w : World) (x : Opz) (bf : Int → Int) (kb : Nat → Bool) (nl : List Int) : Prop where
  b : Ints w .u8 x.qb x.nb bf
  by_ : ∀ i : Int, 0 ≤ i → i < x.nb → isByte (bf i)
  cb : x.nb ≤ x.cb
  qb : 0 < x.nb → ∀ a, x.qb = some a → a.block < E
  k : Bools w x.qk x.nk kb
  ck : x.nk ≤ x.ck
  qk : 0 < x.nk → ∀ a, x.qk = some a → a.block < E
  n : RowsAt w 1 intC x.qn nl
  nn : x.nn = nl.length
  qn : 0 < nl.length → ∀ a, x.qn = some a → a.block < E
  qn0 : nl = [] ∨ ∃ b off, x.qn = some ⟨b, off, none⟩
  nl : nl.length ≤ 100000
  fill : isByte x.fill
theorem FRD.setRl {E : Nat} {w : World} {O : Nat → Prop} {b : Nat} {f : Fst} {H : List (List Ent)} (h : FRD E w O b f H) {q : Option Addr} {c : Nat} {nl : List Int} (hn : RowsAt w 1 intC q nl) (hq : 0 < nl.length → ∀ a, q = some a → a.block < E) : (∃ v, w.cell? ⟨b, 6, none⟩ = some v) ∧ w.frozen? ⟨b, 6, none⟩ = false ∧ FRD E (w.setCell ⟨b, 6, none⟩ (.slice q nl.length c)) O b { f with rl := nl } H ∧ Kp O w (w.setCell ⟨b, 6, none⟩ (.slice q nl.length c)) := by
  have lb := h.lt
  have lE := h.ge _ lb.2
  obtain ⟨Ds', Of', ⟨dv, own, Od', rq, rc, x1, x2, x3, x4, x5, x6, x7, x8, x9⟩, y2, y3, y4, y5⟩ := h
  have kk : Kp (one_ b) w (w.setCell ⟨b, 6, none⟩ (.slice q nl.length c)) := kp_set _ _ _ _
  have nb : Nb b 3 4 w (w.setCell ⟨b, 6, none⟩ (.slice q nl.length c)) := Nb.set w (b := b) (o := 3) (i := 3) (by omega) _
  have cc := x3.set 3 (.slice q nl.length c)
  exact ⟨(x3.slot 3 (by simp)).1, (x3.slot 3 (by simp)).2, ⟨Ds', Of', ⟨dv, own, Od', q, c, x1.nb kk nb (.inl (by simp)), x2.nb kk nb (.inl (by omega)), cc, x4.kp kk (fun g n cap _ hg e => by have e : g = b := e; rw [e] at hg; exact (x7 b hg).2 x2.lt.2), hn.kp kk (fun h0 a e hh => by have := hq h0 a e; have hh : a.block = b := hh; omega), hq, x7, x8, x9⟩, y2.kp pkR kk fun x hl hx => ⟨fun e => hx.2 (by have e : x = b := e; rw [e]; exact x8 _ x2.lt.2), hx⟩, y3, y4, y5⟩, kk.mono fun x _ hx => by have hx : x = b := hx; rw [hx]; exact lb.2⟩
theorem c26 {E : Nat} {w : World} {Q : Nat → Prop} {bp bm : Nat} {f : Fst} (h : Dbl E w Q bp bm f) (o : Fok f) (hk : f.k < 100000) (hr : f.r < 100000) (hw : ∀ s ∈ f.ds, s.wait.length ≤ 90000) (x : Opz) {bf : Int → Int} {kb : Nat → Bool} {nl : List Int} (g : OpzIn E w x bf kb nl) : Rets Tryz.prog 9 #[ptA bp 0, ptA bm 0, .agg (opzC x).toArray] w fun v w' =>
    v = .bool true ∧ Dbl E w' (fun i => Q i ∨ w.heap.size ≤ i) bp bm (opF f x bf kb nl) ∧ Kp (fun i => Q i ∧ i < w.heap.size) w w' := by
  obtain ⟨xk, xid, xat, xa, xt, qb, nb, cb, qk, nk, ck, nm, fill, qn, nn, cn⟩ := x
  obtain ⟨gb, gby, gcb, gqb, gk, gck, gqk, gn, gnn, gqn, gqn0, gnl, gfill⟩ := g
  dsimp only at *
  subst gnn
  refine ent [_, _, _] Tryz.func9 ((vcTryz9 _ _ _ _ _ _ _ _ _ _ _ _ _ _ _ _ _ _ w _).mpr ?_)
  unfold VCTryz9
  obtain ⟨ka, za, Ba⟩ := alloc_k3 w #[.int .i64 xk, .int .i64 xid, .int .i64 xat, .string (ba xa), .string (ba xt), .slice qb nb cb, .slice qk nk ck, .int .i64 nm, .int .u8 fill, .slice qn nl.length cn] 36
  generalize w.alloc (.cells #[.int .i64 xk, .int .i64 xid, .int .i64 xat, .string (ba xa), .string (ba xt), .slice qb nb cb, .slice qk nk ck, .int .i64 nm, .int .u8 fill, .slice qn nl.length cn] 36) = W at *
  obtain ⟨Op, Om, H, hp, hm, dis, bnd, hE⟩ := h
  have hmE := hm.ge
  have szE := hm.szE
  have pl : ∀ i, Op i → i < w.heap.size := fun i hi => (bnd i (.inl hi)).2
  have ml : ∀ i, Om i → i < w.heap.size := fun i hi => (bnd i (.inr hi)).2
  have kd : Kp none_ w W.drew := ka.drew
  have lt1 : ∀ {w1 : World}, Kp Op W w1 → ∀ i, Om i → i < w1.heap.size := fun k i hi => by have := ml i hi; have := k.size; omega
  have keepD : ∀ {w1 : World}, Kp Op W w1 → Keeps W w1 [w.heap.size] := fun k => k.keeps fun i hi => by
    rw [List.mem_singleton] at hi
    subst hi
    exact ⟨by omega, fun hh => by have := pl _ hh; omega⟩
  have keepM : ∀ {w1 w2 : World}, Kp Op W w1 → Kp Om w1 w2 → Keeps w1 w2 [w.heap.size] := fun k0 k => k.keeps fun i hi => by
    have := k0.size
    rw [List.mem_singleton] at hi
    subst hi
    exact ⟨by omega, fun hh => by have := ml _ hh; omega⟩
  have cell : ∀ {w1 : World} (j : Nat) (v : Value), Kp Op W w1 → ([.int .i64 xk, .int .i64 xid, .int .i64 xat, .string (ba xa), .string (ba xt), .slice qb nb cb, .slice qk nk ck, .int .i64 nm, .int .u8 fill, .slice qn nl.length cn] : List Value)[j]? = some v → w1.cell? ⟨w.heap.size, j, none⟩ = some v := fun j v k hv => k.cell (by rw [Ba.cell]; exact hv) (fun hh => by have hh : Op w.heap.size := hh; have := pl _ hh; omega)
  have Rk : ∀ {w1 : World}, Kp Op W w1 → FRD E w1 Om bm f H := fun k => (hm.kp0 ka).kp k (fun i hi => hE i hi) (fun i _ hi => ⟨fun ho => dis i ho hi, hi⟩) hmE
  have fin : ∀ {w1 w2 : World} {f' : Fst} {H' : List (List Ent)}, FSD w1 (fun i => Op i ∨ W.heap.size ≤ i) bp f' → Kp Op W w1 → FRD E w2 (fun i => Om i ∨ w1.heap.size ≤ i) bm f' H' → Kp Om w1 w2 → Dbl E w2 (fun i => Q i ∨ w.heap.size ≤ i) bp bm f' ∧ Kp (fun i => Q i ∧ i < w.heap.size) w w2 := fun {w1 w2 f' H'} d1 k1 r2 k2 => by
    have z1 := k1.size
    have z2 := k2.size
    refine ⟨⟨fun i => (Op i ∨ W.heap.size ≤ i) ∧ i < w1.heap.size, fun i => (Om i ∨ w1.heap.size ≤ i) ∧ i < w2.heap.size, H', d1.kp k2 fun i hil hi => ⟨fun ho => ?_, hi, hil⟩, r2.kp (Kp.refl none_ _) (fun i hi => hi.elim) (fun i hil hi => ⟨id, hi, hil⟩) (fun i hi => ?_), ?_, ?_, fun i hi => ?_⟩, (ka.wide.trans (k1.mono fun i _ hi => bnd i (.inl hi))).trans (k2.mono fun i _ hi => bnd i (.inr hi))⟩
    · rcases hi with hi | hi
      · exact dis i hi ho
      · have := ml i ho; omega
    · rcases hi.1 with hh | hh
      · exact hmE i hh
      · omega
    · rintro i ⟨hi, hil⟩ ⟨ho, _⟩
      rcases hi with hi | hi
      · rcases ho with ho | ho
        · exact dis i hi ho
        · omega
      · rcases ho with ho | ho
        · have := ml i ho; omega
        · omega
    · rintro i (⟨hi, hil⟩ | ⟨hi, hil⟩)
      · rcases hi with hi | hi
        · exact ⟨.inl (bnd i (.inl hi)).1, by omega⟩
        · exact ⟨.inr (by omega), by omega⟩
      · rcases hi with hi | hi
        · exact ⟨.inl (bnd i (.inr hi)).1, by omega⟩
        · exact ⟨.inr (by omega), by omega⟩
    · rcases hi.1 with hh | hh
      · exact hE i hh
      · omega
  have ofd : ∀ {w1 : World}, Kp Op W.drew w1 → Kp Op W w1 := fun k => Kp.of_drew k
  have keepE : ∀ {w1 : World}, Kp Op W w1 → Keeps W.drew w1 [w.heap.size] := fun k => keepD k
  have hpW := hp.kp0 ka
  have hpD := hp.kp0 kd
  have plW : ∀ i, Op i → i < W.heap.size := fun i hi => by have := pl i hi; omega
  have nqb : 0 < nb → ∀ a, qb = some a → ¬ Op a.block ∧ ¬ Om a.block := fun h0 a e => ⟨fun hh => by have := hE _ hh; have := gqb h0 a e; omega, fun hh => by have := hmE _ hh; have := gqb h0 a e; omega⟩
  have nqk : 0 < nk → ∀ a, qk = some a → (¬ Op a.block ∧ ¬ Om a.block) ∧ a.block < w.heap.size := fun h0 a e => ⟨⟨fun hh => by have := hE _ hh; have := gqk h0 a e; omega, fun hh => by have := hmE _ hh; have := gqk h0 a e; omega⟩, by have := gqk h0 a e; omega⟩
  unfold opF
  refine bif_eq (fun hx0 _ => ?_) (fun hx0 => bif_eq (fun hx1 _ => ?_) (fun hx1 => bif_eq (fun hx2 _ => ?_) (fun hx2 => bif_eq (fun hx3 _ => ?_) (fun hx3 => bif_eq (fun hx4 _ => ?_) (fun hx4 => bif_eq (fun hx5 _ => ?_) (fun hx5 => bif_eq (fun hx6 _ => ?_) (fun hx6 _ => ?_)))))))
  · refine (c28F hpW o plW xa).mono ?_
    rintro v w1 ⟨rfl, d1, k1⟩
    refine ⟨_, _, rfl, keepD k1, fun _ => (c68 (Rk k1) o (lt1 k1) xa).mono ?_⟩
    rintro v w2 ⟨rfl, ⟨H', r2⟩, k2⟩
    refine ⟨_, _, rfl, keepM k1 k2, bif_eq (fun _ _ => ⟨_, rfl, by simp, ?_⟩) (fun hh => absurd rfl hh)⟩
    simp only [if_pos hx0]
    exact fin d1 k1 r2 k2
  · refine (c29 hpD o hk hr plW (gb.kp kd fun _ _ _ => id) gby (fun h0 a e => (nqb h0 a e).1) xid xat hw).mono ?_
    rintro v w1 ⟨rfl, d1, kx⟩
    have k1 := ofd kx
    refine ⟨_, rfl, keepE k1, cell 5 _ k1 rfl, cell 2 _ k1 rfl, cell 1 _ k1 rfl, fun _ => (c69 (Rk k1) o hk hr ((gb.kp ka fun _ _ _ => id).kp k1 fun h0 a e => (nqb h0 a e).1) gby gcb (fun h0 a e => (nqb h0 a e).2) xid xat hw).mono ?_⟩
    rintro v w2 ⟨rfl, r2, k2⟩
    refine ⟨_, rfl, keepM k1 k2, fun _ => ⟨_, rfl, by simp, ?_⟩⟩
    simp only [if_neg hx0, if_pos hx1]
    exact fin d1 k1 r2 k2
  · refine (c30 hpD o xid).mono ?_
    rintro v w1 ⟨rfl, d1, kx⟩
    have k1 := ofd kx
    refine ⟨_, rfl, keepE k1, cell 1 _ k1 rfl, fun _ => (c70 (Rk k1) o xid).mono ?_⟩
    rintro v w2 ⟨rfl, r2, k2⟩
    refine ⟨_, rfl, keepM k1 k2, fun _ => ⟨_, rfl, by simp, ?_⟩⟩
    simp only [if_neg hx0, if_neg hx1, if_pos hx2]
    exact fin d1 k1 r2 k2
  · refine (c31 hpW o plW).mono ?_
    rintro v w1 ⟨rfl, d1, k1⟩
    refine ⟨_, rfl, keepD k1, fun _ => (c71 (Rk k1) o).mono ?_⟩
    rintro v w2 ⟨rfl, ⟨H', r2⟩, k2⟩
    refine ⟨_, rfl, keepM k1 k2, fun _ => ⟨_, rfl, by simp, ?_⟩⟩
    simp only [if_neg hx0, if_neg hx1, if_neg hx2, if_pos hx3]
    exact fin d1 k1 r2 k2
  · refine (c52 hpD o plW xa xt).mono ?_
    rintro v w1 ⟨rfl, d1, kx⟩
    have k1 := ofd kx
    refine ⟨_, rfl, keepE k1, cell 4 _ k1 rfl, cell 3 _ k1 rfl, fun _ => (c72 (Rk k1) o (lt1 k1) xa xt).mono ?_⟩
    rintro v w2 ⟨rfl, ⟨H', r2⟩, k2⟩
    refine ⟨_, rfl, keepM k1 k2, fun _ => ⟨_, rfl, by simp, ?_⟩⟩
    simp only [if_neg hx0, if_neg hx1, if_neg hx2, if_neg hx3, if_pos hx4]
    exact fin d1 k1 r2 k2
  · refine (c53 hpD o plW xa).mono ?_
    rintro v w1 ⟨rfl, d1, kx⟩
    have k1 := ofd kx
    refine ⟨_, rfl, keepE k1, cell 3 _ k1 rfl, fun _ => (c73 (Rk k1) o (lt1 k1) xa).mono ?_⟩
    rintro v w2 ⟨rfl, ⟨H', r2⟩, k2⟩
    refine ⟨_, rfl, keepM k1 k2, fun _ => ⟨_, rfl, by simp, ?_⟩⟩
    simp only [if_neg hx0, if_neg hx1, if_neg hx2, if_neg hx3, if_neg hx4, if_pos hx5]
    exact fin d1 k1 r2 k2
  · refine (c32 hpW o plW gck (gk.kp ka fun _ _ _ => id) (fun h0 a e => ⟨(nqk h0 a e).1.1, by have := (nqk h0 a e).2; omega⟩) nm fill gfill hw).mono ?_
    rintro v w1 ⟨rfl, d1, k1⟩
    have z1 := k1.size
    refine ⟨rfl, keepD k1, fun _ => (c74 (Rk k1) o (lt1 k1) ((gk.kp ka fun _ _ _ => id).kp k1 fun h0 a e => (nqk h0 a e).1.1) (fun h0 a e => ⟨(nqk h0 a e).1.2, by have := (nqk h0 a e).2; omega⟩) nm fill gfill hw).mono ?_⟩
    rintro v w2 ⟨rfl, ⟨H', r2⟩, k2⟩
    refine ⟨rfl, keepM k1 k2, fun _ => ⟨_, rfl, rfl, ?_⟩⟩
    simp only [if_neg hx0, if_neg hx1, if_neg hx2, if_neg hx3, if_neg hx4, if_neg hx5, if_pos hx6]
    exact fin d1 k1 r2 k2
  · refine (c27F hpW plW (gn.kp0 ka) (by omega) gqn0).mono ?_
    rintro v w1 ⟨rfl, d1, k1⟩
    have z1 := k1.size
    have rn : RowsAt w1 1 intC qn nl := (gn.kp0 ka).kp k1 fun h0 a e hh => by have := gqn h0 a e; have := hE _ hh; omega
    obtain ⟨s1, s2, r2, k2⟩ := (Rk k1).setRl (c := cn) rn gqn
    have lbm := hm.lt
    simp only [ptr_some, ad3, Nat.zero_add, Nat.add_zero]
    refine ⟨trivial, keepD k1, s1, s2, .inl fun e => by have e : bm = w.heap.size := e; omega, fun _ => ⟨_, rfl, rfl, ?_⟩⟩
    simp only [if_neg hx0, if_neg hx1, if_neg hx2, if_neg hx3, if_neg hx4, if_neg hx5, if_neg hx6]
    exact fin d1 k1 (r2.up (by omega)) k2
end Go.Proofs.YtlgkcbdpaffigaaGreat

namespace Go.Proofs.YtlgkcbdpaffigaaGreat
open Go Go.SX Go.Proofs
set_option maxRecDepth 100000
set_option linter.unusedVariables false
set_option linter.unusedSimpArgs false
theorem sync_size (s : St) : (syncSt s).size = s.size := rfl
theorem sync_wait (s : St) : (syncSt s).wait = [] := rfl
theorem crash_size (s : St) (n : Nat) (kb : Nat → Bool) (fill : Int) : (crashSt s n kb fill).size = s.size := by
  unfold crashSt
  rw [sync_size, (keepsA_same _ n kb _).1, (crashA_same s fill _).1]
theorem crash_wait (s : St) (n : Nat) (kb : Nat → Bool) (fill : Int) : (crashSt s n kb fill).wait = [] := rfl
structure Fb (f : Fst) (n : Nat) : Prop where
  ok : Fok f
  k : f.k ≤ n
  r : f.r ≤ 2 * n
  ds : f.ds.length ≤ n
  ws : f.ws.length ≤ n
  st : ∀ s ∈ f.ds, s.size ≤ 46 ∧ s.wait.length ≤ 8 * n
theorem Fb.cnt {f : Fst} {n : Nat} (h : Fb f n) (hn : n ≤ 90) : Fb (cnt f) (n + 1) := by
  have h1 := h.k
  have h2 := h.r
  refine ⟨cnt_ok h.ok (by omega) (by omega), by show f.k + 1 ≤ _; omega, ?_, by have := h.ds; show f.ds.length ≤ _; omega, by have := h.ws; show f.ws.length ≤ _; omega, fun s hs => ⟨(h.st s hs).1, by have := (h.st s hs).2; omega⟩⟩
  show refN f.rl f.k f.r ≤ _
  unfold refN
  split <;> omega
theorem mem_set {α : Type} {l : List α} {i : Nat} {x y : α} (h : y ∈ l.set i x) : y ∈ l ∨ y = x := List.mem_or_eq_of_mem_set h
/-- One disk of all is another. -/
theorem Fb.set {f : Fst} {n : Nat} (h : Fb f n) (i : Nat) {s : St} (hs : s.size ≤ 46 ∧ s.wait.length ≤ 8 * n) : Fb { f with ds := f.ds.set i s } n :=
  ⟨⟨h.ok.wf, h.ok.ok, h.ok.wsl, by have := h.ok.dsl; show (f.ds.set i s).length ≤ _; rw [List.length_set]; exact this, h.ok.k, h.ok.r, h.ok.rll, h.ok.cap⟩, h.k, h.r, by have := h.ds; show (f.ds.set i s).length ≤ _; rw [List.length_set]; exact this, h.ws, fun t ht => by
    rcases mem_set ht with ht | rfl
    · exact h.st t ht
    · exact hs⟩
theorem Fb.get {f : Fst} {n : Nat} (h : Fb f n) (i : Nat) : (f.ds.getD i emptySt).size ≤ 46 ∧ (f.ds.getD i emptySt).wait.length ≤ 8 * n := by
  by_cases hi : i < f.ds.length
  · exact h.st _ (List.mem_of_getElem? (getD_get f.ds emptySt hi))
  · rw [List.getD_eq_getElem?_getD, List.getElem?_eq_none (by omega)]
    exact ⟨Nat.zero_le _, Nat.zero_le _⟩
theorem Fb.mkd {f : Fst} {n : Nat} (h : Fb f n) (hn : n ≤ 90) (a : List UInt8) : Fb (mkF f a) (n + 1) := by
  have hc := h.cnt hn
  unfold mkF
  by_cases hE : newF f a = 0
  · rw [if_pos hE]
    unfold newF at hE
    split at hE
    · cases hE
    · split at hE
      · cases hE
      · have h1 := h.ds
        have h2 := h.ws
        refine ⟨⟨h.ok.wf, okCs_snoc.2 ⟨h.ok.ok, (create_ok h.ok.last hE _).1⟩, by show (f.ws ++ [_]).length ≤ _; simp; omega, by show (f.ds ++ [emptySt]).length ≤ _; simp; omega, hc.ok.k, hc.ok.r, hc.ok.rll, hc.ok.cap⟩, hc.k, hc.r, by show (f.ds ++ [emptySt]).length ≤ _; simp; omega, by show (f.ws ++ [_]).length ≤ _; simp; omega, fun s hs => ?_⟩
        rcases List.mem_append.1 hs with hs | hs
        · exact hc.st s hs
        · rw [List.mem_singleton] at hs
          subst hs
          exact ⟨Nat.zero_le _, Nat.zero_le _⟩
  · rw [if_neg hE]
    exact hc
theorem Fb.wr {f : Fst} {n : Nat} (h : Fb f n) (hn : n ≤ 90) (i at_ : Int) (m : Nat) (bf : Int → Int) (hm : m ≤ 3000) (ha : at_ ≤ 20000 ∨ 2097152 < at_) : Fb (wrF f i at_ m bf).2 (n + 1) := by
  have hc := h.cnt hn
  have h2 := h.r
  unfold wrF
  split
  · exact hc
  · split
    · exact hc
    · split
      · have e : refN f.rl f.k f.r ≤ f.r + 1 := by unfold refN; split <;> omega
        refine ⟨⟨hc.ok.wf, hc.ok.ok, hc.ok.wsl, hc.ok.dsl, hc.ok.k, ?_, hc.ok.rll, hc.ok.cap⟩, hc.k, ?_, hc.ds, hc.ws, hc.st⟩
        · have := hc.ok.r
          show 0 ≤ (Go.Proofs.YtlgkcbdpaffigaaGreat.cnt f).r + 1 ∧ (Go.Proofs.YtlgkcbdpaffigaaGreat.cnt f).r + 1 ≤ 100000
          have e' : (Go.Proofs.YtlgkcbdpaffigaaGreat.cnt f).r ≤ f.r + 1 := e
          omega
        · show refN f.rl f.k f.r + 1 ≤ _
          omega
      · have g := h.get i.toNat
        refine hc.set i.toNat ?_
        split
        · rename_i hh
          have hr := of_decide_eq_true hh.1
          rw [write_size, write_wait]
          unfold hiF loF
          omega
        · exact ⟨g.1, by omega⟩
end Go.Proofs.YtlgkcbdpaffigaaGreat

namespace Go.Proofs.YtlgkcbdpaffigaaGreat
open Go Go.SX Go.Proofs
set_option maxRecDepth 100000
set_option linter.unusedVariables false
set_option linter.unusedSimpArgs false
theorem Fb.sy {f : Fst} {n : Nat} (h : Fb f n) (hn : n ≤ 90) (i : Int) : Fb (syF f i).2 (n + 1) := by
  have hc := h.cnt hn
  unfold syF
  split
  · exact hc
  · split
    · exact hc
    · refine hc.set i.toNat ⟨?_, by rw [sync_wait]; exact Nat.zero_le _⟩
      rw [sync_size]
      exact (h.get i.toNat).1
theorem Fb.sd {f : Fst} {n : Nat} (h : Fb f n) (hn : n ≤ 90) : Fb (sdF f).2 (n + 1) := by
  have hc := h.cnt hn
  unfold sdF
  split
  · exact hc
  · exact ⟨⟨h.ok.last, trivial, Nat.zero_le _, hc.ok.dsl, hc.ok.k, hc.ok.r, hc.ok.rll, hc.ok.cap⟩, hc.k, hc.r, hc.ds, Nat.zero_le _, hc.st⟩
theorem Fb.rn {f : Fst} {n : Nat} (h : Fb f n) (hn : n ≤ 90) (a t : List UInt8) : Fb (rnF f a t).2 (n + 1) := by
  have hc := h.cnt hn
  have h2 := h.ws
  unfold rnF
  split
  · exact hc
  · by_cases hE : renameE (lastE f.S f.ws) a t = 0
    · rw [if_pos hE]
      exact ⟨⟨h.ok.wf, okCs_snoc.2 ⟨h.ok.ok, (rename_ok h.ok.last hE).1⟩, by show (f.ws ++ [_]).length ≤ _; simp; omega, hc.ok.dsl, hc.ok.k, hc.ok.r, hc.ok.rll, hc.ok.cap⟩, hc.k, hc.r, hc.ds, by show (f.ws ++ [_]).length ≤ _; simp; omega, hc.st⟩
    · rw [if_neg hE]
      exact hc
theorem Fb.rm {f : Fst} {n : Nat} (h : Fb f n) (hn : n ≤ 90) (a : List UInt8) : Fb (rmF f a).2 (n + 1) := by
  have hc := h.cnt hn
  have h2 := h.ws
  unfold rmF
  split
  · exact hc
  · by_cases hE : removeE (lastE f.S f.ws) a = 0
    · rw [if_pos hE]
      exact ⟨⟨h.ok.wf, okCs_snoc.2 ⟨h.ok.ok, (remove_ok hE).1⟩, by show (f.ws ++ [_]).length ≤ _; simp; omega, hc.ok.dsl, hc.ok.k, hc.ok.r, hc.ok.rll, hc.ok.cap⟩, hc.k, hc.r, hc.ds, by show (f.ws ++ [_]).length ≤ _; simp; omega, hc.st⟩
    · rw [if_neg hE]
      exact hc
theorem Fb.up {f : Fst} {n : Nat} (h : Fb f n) : Fb f (n + 1) := ⟨h.ok, by have := h.k; omega, by have := h.r; omega, by have := h.ds; omega, by have := h.ws; omega, fun s hs => ⟨(h.st s hs).1, by have := (h.st s hs).2; omega⟩⟩
theorem crDs_all {p : St → Prop} {ds : List St} (n : Nat) (kb : Nat → Bool) (fill : Int) (h : ∀ s ∈ ds, p s) (hc : ∀ j, j < ds.length → ∀ m k, p (crashSt (ds.getD j emptySt) m k fill)) : ∀ j, j ≤ ds.length → ∀ s ∈ crDs ds n kb fill j, p s
  | 0, _ => h
  | j + 1, hj => fun s hs => by
    rcases mem_set (show s ∈ (crDs ds n kb fill j).set j _ from hs) with hs | rfl
    · exact crDs_all n kb fill h hc j (by omega) s hs
    · exact hc j (by omega) _ _
theorem Fb.cr {f : Fst} {n : Nat} (h : Fb f n) (m : Nat) (kb : Nat → Bool) (nm fill : Int) : Fb (crashF f m kb nm fill) (n + 1) := by
  have hu := h.up
  refine ⟨⟨wf_last h.ok.wf (okCs_take h.ok.ok _), trivial, Nat.zero_le _, ?_, h.ok.k, h.ok.r, Nat.zero_le _, h.ok.cap⟩, hu.k, hu.r, ?_, Nat.zero_le _, ?_⟩
  · show (crDs _ _ _ _ _).length ≤ _
    rw [crDs_len]
    exact h.ok.dsl
  · show (crDs _ _ _ _ _).length ≤ _
    rw [crDs_len]
    exact hu.ds
  · exact crDs_all (p := fun s => s.size ≤ 46 ∧ s.wait.length ≤ 8 * (n + 1)) m kb fill hu.st (fun j hj m k => ⟨by rw [crash_size]; exact (h.get j).1, by rw [crash_wait]; exact Nat.zero_le _⟩) _ (Nat.le_refl _)
theorem Fb.op {f : Fst} {n : Nat} (h : Fb f n) (hn : n ≤ 90) (x : Opz) (hx : x.Small) (bf : Int → Int) (kb : Nat → Bool) (nl : List Int) (hl : nl.length ≤ 100000) : Fb (opF f x bf kb nl) (n + 1) := by
  unfold opF
  split
  · exact h.mkd hn _
  · split
    · exact h.wr hn _ _ _ _ hx.nb hx.at_
    · split
      · exact h.sy hn _
      · split
        · exact h.sd hn
        · split
          · exact h.rn hn _ _
          · split
            · exact h.rm hn _
            · split
              · exact h.cr _ _ _ _
              · exact ⟨⟨h.ok.wf, h.ok.ok, h.ok.wsl, h.ok.dsl, h.ok.k, h.ok.r, hl, h.ok.cap⟩, h.up.k, h.up.r, h.up.ds, h.up.ws, h.up.st⟩
end Go.Proofs.YtlgkcbdpaffigaaGreat

namespace Go.Proofs.YtlgkcbdpaffigaaGreat
open Go Go.SX Go.Proofs
set_option maxRecDepth 100000
set_option linter.unusedVariables false
set_option linter.unusedSimpArgs false
end Go.Proofs.YtlgkcbdpaffigaaGreat

namespace Go.Proofs.YtlgkcbdpaffigaaGreat
open Go Go.SX Go.Proofs Go.ChangeShapes Go.WideShapes Go.ChangeAt Go.ChangeMaps Go.RowKit
set_option maxRecDepth 100000
set_option linter.unusedVariables false
theorem Tryz.own : ownKnob Tryz.prog.godebug = none := by kernel_rfl
theorem Tryz.laidOut : laidOutB Tryz.prog = true := by kernel_rfl
theorem Tryz.cells3 : Tryz.prog.cellsOf 3 = 1 := by kernel_rfl
theorem Tryz.cells4 : Tryz.prog.cellsOf 4 = 1 := by kernel_rfl
theorem Tryz.cells9 : Tryz.prog.cellsOf 9 = 1 := by kernel_rfl
section
variable {H : Type} {enc : TypeId × Value → H} {W : World}
theorem ba_lit (s : List UInt8) : ba s = ⟨s.toArray⟩ := rfl
end
end Go.Proofs.YtlgkcbdpaffigaaGreat

namespace Go.Proofs.YtlgkcbdpaffigaaGreat
open Go Go.SX Go.Proofs Go.ChangeShapes Go.WideShapes Go.ChangeAt Go.ChangeMaps Go.RowKit
set_option maxRecDepth 100000
set_option linter.unusedVariables false
theorem Tryz.cells5 : Tryz.prog.cellsOf 5 = 1 := by kernel_rfl
theorem Tryz.cells36 : Tryz.prog.cellsOf 36 = 10 := by kernel_rfl
theorem Tryz.cells33 : Tryz.prog.cellsOf 33 = 3 := by kernel_rfl
theorem Tryz.cells30 : Tryz.prog.cellsOf 30 = 1 := by kernel_rfl
theorem Tryz.cells31 : Tryz.prog.cellsOf 31 = 1 := by kernel_rfl
theorem Tryz.cells34 : Tryz.prog.cellsOf 34 = 1 := by kernel_rfl
structure Slx where
  q : Option Addr
  n : Nat
  c : Nat
def slxC (x : Slx) : List Value := [.slice x.q x.n x.c]
section
variable {H : Type} {enc : TypeId × Value → H} {W : World}
theorem dec_bytes : Dec enc Tryz.prog W 30 slxC (fun x => ∃ bf, Ints W .u8 x.q x.n bf ∧ x.n ≤ x.c ∧ ∀ i : Int, 0 ≤ i → i < x.n → isByte (bf i)) := fun fuel cs x h => by
  obtain ⟨q, n, c, b, e, l, _, i, wf⟩ := ints_of_trod Tryz.underlying30 Tryz.underlying5 Tryz.cells5 h
  exact ⟨⟨q, n, c⟩, e, b, i, l, fun i h0 h1 => wf_u8 (wf i h0 h1)⟩
theorem dec_bools : Dec enc Tryz.prog W 31 slxC (fun x => ∃ kb, Bools W x.q x.n kb ∧ x.n ≤ x.c) := fun fuel cs x h => by
  obtain ⟨q, n, c, b, e, l, _, i⟩ := bools_of_trod Tryz.underlying31 Tryz.underlying4 Tryz.cells4 h
  exact ⟨⟨q, n, c⟩, e, b, i, l⟩
structure Crx where
  k : Slx
  nm : Int
  fill : Int
def crxC (x : Crx) : List Value := slxC x.k ++ [.int .i64 x.nm, .int .u8 x.fill]
theorem dec_crash : Dec enc Tryz.prog W 33 crxC (fun x => (∃ kb, Bools W x.k.q x.k.n kb ∧ x.k.n ≤ x.k.c) ∧ isByte x.fill) := fun fuel cs x h => by
  obtain ⟨xs, n, _, _, hcl, hxl, hf⟩ := DataW.trod_struct Tryz.underlying33 h
  rw [Tryz.cells33] at hcl
  obtain ⟨k, e0, g0⟩ := dec_field hf hxl (i := 0) (o := 0) rfl Tryz.cells31 rfl rfl dec_bools
  obtain ⟨m, e1, _⟩ := dec_field hf hxl (i := 1) (o := 1) rfl Tryz.cells3 rfl rfl (dec_int Tryz.underlying3)
  obtain ⟨y, e2, g2⟩ := dec_field hf hxl (i := 2) (o := 2) rfl Tryz.cells5 rfl rfl (dec_int Tryz.underlying5)
  refine ⟨⟨k, m, y⟩, ?_, g0, wf_u8 g2⟩
  rw [← List.drop_zero (l := cs), e0, e1, e2, dec_end hcl]
  simp [crxC]
theorem dec_ns : Dec enc Tryz.prog W 34 slxC (fun x => ∃ nl : List Int, x.n = nl.length ∧ RowsAt W 1 intC x.q nl) := fun fuel cs x h => by
  obtain ⟨q, c, l, e, _, _, r, _⟩ := dec_rows Tryz.underlying34 Tryz.cells3 (dec_int Tryz.underlying3) h
  exact ⟨⟨q, l.length, c⟩, e, l, rfl, r⟩
structure OpzRaw (W : World) (x : Opz) : Prop where
  b : ∃ bf, Ints W .u8 x.qb x.nb bf ∧ x.nb ≤ x.cb ∧ ∀ i : Int, 0 ≤ i → i < x.nb → isByte (bf i)
  k : ∃ kb, Bools W x.qk x.nk kb ∧ x.nk ≤ x.ck
  n : ∃ nl : List Int, x.nn = nl.length ∧ RowsAt W 1 intC x.qn nl
  fill : isByte x.fill
theorem dec_opz : Dec enc Tryz.prog W 36 opzC (OpzRaw W) := fun fuel cs x h => by
  obtain ⟨xs, n, _, _, hcl, hxl, hf⟩ := DataW.trod_struct Tryz.underlying36 h
  rw [Tryz.cells36] at hcl
  obtain ⟨k, e0, _⟩ := dec_field hf hxl (i := 0) (o := 0) rfl Tryz.cells3 rfl rfl (dec_int Tryz.underlying3)
  obtain ⟨id, e1, _⟩ := dec_field hf hxl (i := 1) (o := 1) rfl Tryz.cells3 rfl rfl (dec_int Tryz.underlying3)
  obtain ⟨at_, e2, _⟩ := dec_field hf hxl (i := 2) (o := 2) rfl Tryz.cells3 rfl rfl (dec_int Tryz.underlying3)
  obtain ⟨a, e3, _⟩ := dec_field hf hxl (i := 3) (o := 3) rfl Tryz.cells9 rfl rfl (dec_str Tryz.underlying9)
  obtain ⟨t, e4, _⟩ := dec_field hf hxl (i := 4) (o := 4) rfl Tryz.cells9 rfl rfl (dec_str Tryz.underlying9)
  obtain ⟨b, e5, g5⟩ := dec_field hf hxl (i := 5) (o := 5) rfl Tryz.cells30 rfl rfl dec_bytes
  obtain ⟨c, e6, g6⟩ := dec_field hf hxl (i := 6) (o := 6) rfl Tryz.cells33 rfl rfl dec_crash
  obtain ⟨m, e7, g7⟩ := dec_field hf hxl (i := 7) (o := 9) rfl Tryz.cells34 rfl rfl dec_ns
  refine ⟨⟨k, id, at_, a, t, b.q, b.n, b.c, c.k.q, c.k.n, c.k.c, c.nm, c.fill, m.q, m.n, m.c⟩, ?_, g5, g6.1, g7, g6.2⟩
  rw [← List.drop_zero (l := cs), e0, e1, e2, e3, e4, e5, e6, e7, dec_end hcl]
  simp [opzC, ba_lit, slxC, crxC]
theorem open_opz {v : Value} {d : DataW H} {ps : List MemPlace} {r : Reach} {b0 : Nat} (hval : Value.okWide Tryz.prog W r b0 22 v) (h : DataW.Trod enc Tryz.prog W 0 (fun _ => true) true 22 v d ps) :
    ∃ (q : Option Addr) (c : Nat) (l : List Opz), v = .slice q l.length c ∧ RowsAt W 10 opzC q l ∧ ∀ x ∈ l, OpzRaw W x := by
  obtain ⟨a0, len, cap, rfl⟩ := okWide_slice Tryz.underlying22 hval
  obtain ⟨fuel, hf⟩ := h
  obtain ⟨q, c, l, hcs, h1, h2, h3, h4⟩ := dec_rows Tryz.underlying22 Tryz.cells36 dec_opz hf
  simp only [Value.cells, List.cons.injEq, and_true] at hcs
  exact ⟨q, c, l, hcs, h3, h4⟩
end
end Go.Proofs.YtlgkcbdpaffigaaGreat

namespace Go.Proofs.YtlgkcbdpaffigaaGreat
open Go Go.SX Go.Proofs
set_option maxRecDepth 100000
set_option linter.unusedVariables false
set_option linter.unusedSimpArgs false
theorem opzIn_of {W : World} {x : Opz} (h : OpzRaw W x) (hs : x.Small) : ∃ bf kb nl, OpzIn W.heap.size W x bf kb nl := by
  obtain ⟨⟨bf, b1, b2, b3⟩, ⟨kb, k1, k2⟩, ⟨nl, n1, n2⟩, h4⟩ := h
  refine ⟨bf, kb, nl, b1, b3, b2, fun h0 a e => ?_, k1, k2, fun h0 a e => ?_, n2, n1, fun h0 a e => ?_, ?_, by have := hs.nn; omega, h4⟩
  · obtain ⟨a', e', hc⟩ := b1 0 (by omega) (by omega)
    rw [e] at e'
    cases e'
    have := cell_lt hc
    rwa [add_block] at this
  · obtain ⟨a', e', hc⟩ := k1 0 h0
    rw [e] at e'
    cases e'
    have := cell_lt hc
    rwa [add_block] at this
  · obtain ⟨a', e', hc⟩ := n2 0 h0
    rw [e] at e'
    cases e'
    have := cell_lt (hc 0 _ rfl)
    rwa [add_block, add_block] at this
  · cases hn : nl with
    | nil => exact .inl rfl
    | cons y r =>
      refine .inr ?_
      obtain ⟨a', e', hc⟩ := n2 0 (by rw [hn]; simp)
      have hc := hc 0 _ rfl
      rw [cell_add0, Nat.zero_mul, cell_add0] at hc
      obtain ⟨b, o, s⟩ := a'
      cases s with
      | none => exact ⟨b, o, e'⟩
      | some z =>
        unfold World.cell? at hc
        split at hc
        · simp at hc
        · cases hc
theorem OpzIn.kp {E : Nat} {S : Nat → Prop} {w w' : World} {x : Opz} {bf : Int → Int} {kb : Nat → Bool} {nl : List Int} (h : OpzIn E w x bf kb nl) (k : Kp S w w') (hS : ∀ i, S i → E ≤ i) : OpzIn E w' x bf kb nl :=
  ⟨h.b.kp k fun h0 a e hh => by have := h.qb h0 a e; have := hS _ hh; omega, h.by_, h.cb, h.qb, h.k.kp k fun h0 a e hh => by have := h.qk h0 a e; have := hS _ hh; omega, h.ck, h.qk, h.n.kp k fun h0 a e hh => by have := h.qn h0 a e; have := hS _ hh; omega, h.nn, h.qn, h.qn0, h.nl, h.fill⟩
theorem Dbl.mono {E : Nat} {w : World} {Q Q' : Nat → Prop} {bp bm : Nat} {f : Fst} (h : Dbl E w Q bp bm f) (hQ : ∀ i, i < w.heap.size → Q i → Q' i) : Dbl E w Q' bp bm f := by
  obtain ⟨Op, Om, H, h1, h2, h3, h4, h5⟩ := h
  exact ⟨Op, Om, H, h1, h2, h3, fun i hi => ⟨hQ i (h4 i hi).2 (h4 i hi).1, (h4 i hi).2⟩, h5⟩
/-- The program's files, above all that was there. -/
def Ab (E : Nat) (w : World) (b : Nat) (f : Fst) : Prop := FSD w (fun i => E < i ∧ i < w.heap.size) b f
theorem Ab.of {E : Nat} {w w' : World} {b : Nat} {f : Fst} (hE : E < w.heap.size) (h : FSD w' (fun x => (E < x ∧ x < w.heap.size) ∨ w.heap.size ≤ x) b f) : Ab E w' b f :=
  h.kp (Kp.refl none_ _) fun x hl hx => ⟨id, by rcases hx with hx | hx <;> omega, hl⟩
theorem Fb.rl {f : Fst} {n : Nat} (h : Fb f n) {nl : List Int} (hl : nl.length ≤ 100000) : Fb { f with rl := nl } n :=
  ⟨⟨h.ok.wf, h.ok.ok, h.ok.wsl, h.ok.dsl, h.ok.k, h.ok.r, hl, h.ok.cap⟩, h.k, h.r, h.ds, h.ws, h.st⟩
theorem Fb.new : Fb (newFst 60000) 0 := ⟨newFst_ok 60000, by decide, by decide, by decide, by decide, fun s hs => by cases hs⟩
end Go.Proofs.YtlgkcbdpaffigaaGreat


