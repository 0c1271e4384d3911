import Derived.Test.YtlgkcbdpaffigaaBm
import Derived.Test.YtlgkcbdpaffigaaBg
import Derived.Test.YtlgkcbdpaffigaaVcb
namespace Go.Proofs.Ytlgkcbdpaffigaa
open Go Go.SX Go.Proofs Go.Lib
set_option maxRecDepth 100000
set_option linter.unusedVariables false
set_option linter.unusedSimpArgs false
section
variable {w w' : World} {col col' : Col} {D : Nat} {s : St} {S : Nat → Prop}
/-- What one sector's writing asks, with its bytes from F to T. -/
def Seg58 (p0 : Option Addr) (p1 : Int) (p2 : Option Addr) (c2 : Nat) (F T : Int) (I50 : Int → World → Prop) (I51 : Int → World → Nat) (i52 : Int) (w53 : World) : Prop :=
  SX.Ptr p0 fun (a61 : Addr) => ∃ (q62 : Option Addr), ∃ (n63 : Nat), ∃ (n64 : Nat), w53.cell? (a61.add (0 : Nat)) = some (Value.slice q62 n63 n64) ∧ ((0 : Int) ≤ i52 ∧ i52 < (↑n63 : Int)) ∧ SX.Ptr q62 fun (a65 : Addr) => ∃ (s66 : ByteArray), w53.cell? (a65.add (i52.toNat * (1 : Nat))) = some (Value.string s66) ∧ Wr IntKind.i64 ((512 : Int) * i52) fun (i67 : Int) => Wr IntKind.i64 (F - i67) fun (i68 : Int) => ((0 : Int) ≤ i68 ∧ i68 ≤ (↑s66.size : Int)) ∧ Wr IntKind.i64 (F - p1) fun (i69 : Int) => Wr IntKind.i64 (T - p1) fun (i70 : Int) => ((0 : Int) ≤ i70 ∧ i70 ≤ (↑c2 : Int)) ∧ ((0 : Int) ≤ i69 ∧ i69 ≤ (↑i70.toNat : Int)) ∧ ∃ (s71 : ByteArray), s71.size = i70.toNat - i69.toNat ∧ BytesAt w53.drew (cutA p2 c2 i69.toNat (1 : Nat)) s71 ∧ (s66.extract (0 : Nat) i68.toNat).size + s71.size ≤ (9223372036854775807 : Nat) ∧ Wr IntKind.i64 ((512 : Int) * i52) fun (i72 : Int) => Wr IntKind.i64 (T - i72) fun (i73 : Int) => ((0 : Int) ≤ i73 ∧ i73 ≤ (↑s66.size : Int)) ∧ (s66.extract (0 : Nat) i68.toNat ++ s71).size + (s66.extract i73.toNat s66.size).size ≤ (9223372036854775807 : Nat) ∧ SX.Ptr p0 fun (a74 : Addr) => ∃ (q75 : Option Addr), ∃ (n76 : Nat), ∃ (n77 : Nat), w53.drew.cell? (a74.add (0 : Nat)) = some (Value.slice q75 n76 n77) ∧ ((0 : Int) ≤ i52 ∧ i52 < (↑n76 : Int)) ∧ SX.Ptr q75 fun (a78 : Addr) => (∃ (v79 : Value), w53.drew.cell? ((a78.add (i52.toNat * (1 : Nat))).add (0 : Nat)) = some v79) ∧ w53.drew.frozen? ((a78.add (i52.toNat * (1 : Nat))).add (0 : Nat)) = false ∧ SX.Ptr p0 fun (a80 : Addr) => ∃ (q81 : Option Addr), ∃ (n82 : Nat), ∃ (n83 : Nat), (w53.drew.setCell ((a78.add (i52.toNat * (1 : Nat))).add (0 : Nat)) (Value.string (s66.extract (0 : Nat) i68.toNat ++ s71 ++ s66.extract i73.toNat s66.size))).cell? (a80.add (3 : Nat)) = some (Value.slice q81 n82 n83) ∧ Runs Try.prog (Builtin.append_ #[(32 : Nat), (32 : Nat)] (32 : Nat) #[Value.slice q81 n82 n83, Value.slice (some { block := (w53.drew.setCell ((a78.add (i52.toNat * (1 : Nat))).add (0 : Nat)) (Value.string (s66.extract (0 : Nat) i68.toNat ++ s71 ++ s66.extract i73.toNat s66.size))).heap.size, off := (0 : Nat) }) (1 : Nat) (1 : Nat)]) ((w53.drew.setCell ((a78.add (i52.toNat * (1 : Nat))).add (0 : Nat)) (Value.string (s66.extract (0 : Nat) i68.toNat ++ s71 ++ s66.extract i73.toNat s66.size))).alloc (Obj.cells #[Value.int IntKind.i64 i52, Value.string (s66.extract (0 : Nat) i68.toNat ++ s71 ++ s66.extract i73.toNat s66.size)] (149 : Nat))) fun (v84 : Value) (w85 : World) => ∃ (q86 : Option Addr), ∃ (n87 : Nat), ∃ (n88 : Nat), v84 = Value.slice q86 n87 n88 ∧ Keeps ((w53.drew.setCell ((a78.add (i52.toNat * (1 : Nat))).add (0 : Nat)) (Value.string (s66.extract (0 : Nat) i68.toNat ++ s71 ++ s66.extract i73.toNat s66.size))).alloc (Obj.cells #[Value.int IntKind.i64 i52, Value.string (s66.extract (0 : Nat) i68.toNat ++ s71 ++ s66.extract i73.toNat s66.size)] (149 : Nat))) w85 [] ∧ SX.Ptr p0 fun (a89 : Addr) => (∃ (v90 : Value), w85.cell? ((a89.add (3 : Nat)).add (0 : Nat)) = some v90) ∧ w85.frozen? ((a89.add (3 : Nat)).add (0 : Nat)) = false ∧ Wr IntKind.i64 (i52 + (1 : Int)) fun (i91 : Int) => I50 i91 (w85.setCell ((a89.add (3 : Nat)).add (0 : Nat)) (Value.slice q86 n87 n88)) ∧ I51 i91 (w85.setCell ((a89.add (3 : Nat)).add (0 : Nat)) (Value.slice q86 n87 n88)) < I51 i52 w53
def partF (f b : Int → Int) (at_ : Int) (n : Nat) (to : Int) : Int → Int := fun p => if at_ ≤ p ∧ p < at_ + n ∧ p < to then b (p - at_) else f p
/-- So many sectors were written. -/
def partSt (s g : St) (at_ : Int) (n : Nat) (b : Int → Int) (j : Nat) : St := { g with now := partF g.now b at_ n (512 * (loF at_ + j)), wait := s.wait ++ waits (loF at_) j (overF g.now b at_ n) }
theorem strOf_three {f g b : Int → Int} {i : Int} {n : Nat} {at_ : Int} {F T : Nat} {tx : ByteArray} (hF : F ≤ T) (hT : T ≤ 512)
    (h1 : ∀ p : Int, 512 * i ≤ p → p < 512 * i + F → f p = g p) (h3 : ∀ p : Int, 512 * i + T ≤ p → p < 512 * i + 512 → f p = g p)
    (htx : tx = strOf g (512 * i + F) (T - F)) : (strOf f (512 * i) 512).extract 0 F ++ tx ++ (strOf f (512 * i) 512).extract T 512 = strOf g (512 * i) 512 := by
  rw [strOf_cut _ _ _ _ _ (by omega) (by omega), strOf_cut _ _ _ _ _ (by omega) (by omega), htx]
  have e1 : strOf f (512 * i + (0 : Nat)) (F - 0) = strOf g (512 * i) F := by
    rw [Nat.sub_zero]
    exact strOf_eq fun j hj => by rw [h1 _ (by omega) (by omega)]; congr 1; omega
  have e3 : strOf f (512 * i + (T : Nat)) (512 - T) = strOf g (512 * i + T) (512 - T) := strOf_eq fun j hj => h3 _ (by omega) (by omega)
  rw [e1, e3, strOf_app]
  have : strOf g (512 * i + (T : Int)) (512 - T) = strOf g (512 * i + ((F + (T - F) : Nat) : Int)) (512 - T) := by congr 1; omega
  rw [this, strOf_app]
  congr 1
  omega
theorem seg58 {col1 : Col} {g : St} (h : RDsk w col1 D g) {q : Option Addr} {n cp : Nat} {b : Int → Int} (hb : Ints w .u8 q n b) (hby : ∀ i : Int, 0 ≤ i → i < n → isByte (b i)) (hcp : n ≤ cp) (at_ : Int) (h0 : 0 ≤ at_) (hn : n ≤ 2097152) (hat : at_ ≤ 2097152)
    (i : Nat) (hi : i < g.size) (F T : Int) (hF : at_ ≤ F ∧ 512 * (i : Int) ≤ F) (hT : T ≤ at_ + n ∧ T ≤ 512 * (i : Int) + 512) (hFT : F ≤ T) {G : Int → Int}
    (h1 : ∀ p : Int, 512 * i ≤ p → p < F → g.now p = G p) (h3 : ∀ p : Int, T ≤ p → p < 512 * i + 512 → g.now p = G p) (h2 : ∀ p : Int, F ≤ p → p < T → G p = b (p - at_))
    (hl : g.wait.length ≤ 100000) {f : Int → Int} (hf : ∀ p : Int, 512 * i ≤ p → p < 512 * i + 512 → f p = G p) (hfb : ∀ p, isByte (f p))
    {I50 : Int → World → Prop} {I51 : Int → World → Nat}
    (hK : ∀ w3 col', Kp (ownC col1) w w3 → Grow col1 col' w w3 → RDsk w3 col' D { setNow g i (secAt f i) with wait := g.wait ++ [(i, f)] } → I50 ((i : Int) + 1) w3 ∧ I51 ((i : Int) + 1) w3 < I51 i w) :
    Seg58 (some ⟨D, 0, none⟩) at_ q cp F T I50 I51 i w := by
  obtain ⟨F, rfl⟩ := Int.eq_ofNat_of_zero_le (show 0 ≤ F by omega)
  obtain ⟨T, rfl⟩ := Int.eq_ofNat_of_zero_le (show 0 ≤ T by omega)
  unfold Seg58
  have hs := h.ok.size
  have hd := h.dlt
  obtain ⟨g0, c0, x1, x2, x3, x4, x5⟩ := h.drew.now.setAt (by rw [h.colD]; omega) hi
  have x1' : w.cell? ⟨D, 0, none⟩ = some (.slice (some ⟨g0, 0, none⟩) g.size c0) := x1
  obtain ⟨g0', c0', y1, y2, y3⟩ := h.now.get (by omega)
  rw [x1'] at y1
  cases y1
  simp only [ptr_some, ad_add, Nat.zero_add, Nat.add_zero, Nat.mul_one, Int.toNat_natCast]
  refine ⟨_, _, _, x1', by omega, ?_⟩
  simp only [ptr_some, ad_add, Nat.zero_add, Nat.add_zero, Nat.mul_one, Int.toNat_natCast]
  refine ⟨_, y3 i _ (strL_get _ hi), wr64 (by omega) (wr64 (by omega) ?_)⟩
  obtain ⟨F', hF'⟩ : ∃ F' : Nat, F = 512 * i + F' := ⟨F - 512 * i, by omega⟩
  obtain ⟨T', hT'⟩ : ∃ T' : Nat, T = 512 * i + T' := ⟨T - 512 * i, by omega⟩
  have e1 : (F : Int) - 512 * (i : Int) = (F' : Nat) := by omega
  have e2 : (T : Int) - 512 * (i : Int) = (T' : Nat) := by omega
  obtain ⟨l, hl0⟩ : ∃ l : Nat, (F : Int) - at_ = l := ⟨((F : Int) - at_).toNat, by omega⟩
  obtain ⟨r, hr0⟩ : ∃ r : Nat, (T : Int) - at_ = r := ⟨((T : Int) - at_).toNat, by omega⟩
  simp only [strOf_size, e1, e2, hl0, hr0, Int.toNat_natCast]
  refine ⟨by omega, wr64 (by omega) (wr64 (by omega) ⟨by omega, by omega, strOf b l (r - l), by rw [strOf_size]; omega, ?_, ?_⟩)⟩
  · exact Ints.str hb (fun i h0 h1 => hby i h0 h1) cp l (r - l) (by omega) hcp
  have ht : (strOf g.now (512 * (i : Int)) 512).extract 0 F' ++ strOf b l (r - l) ++ (strOf g.now (512 * (i : Int)) 512).extract T' 512 = strOf (secAt f i) 0 512 := by
    rw [secAt_str]
    have : strOf f (512 * (i : Int)) 512 = strOf G (512 * (i : Int)) 512 := strOf_eq fun j hj => hf _ (by omega) (by omega)
    rw [this]
    refine strOf_three (n := n) (at_ := at_) (b := b) (by omega) (by omega) (fun p a c => h1 p a (by omega)) (fun p a c => h3 p (by omega) c) ?_
    rw [show r - l = T' - F' by omega]
    exact strOf_eq fun j hj => by rw [h2 _ (by omega) (by omega)]; congr 1; omega
  refine ⟨by rw [strOf_cut _ _ _ _ _ (by omega) (by omega), strOf_size, strOf_size]; omega, wr64 (by omega) (wr64 (by omega) ?_)⟩
  simp only [e2, Int.toNat_natCast]
  rw [ht]
  refine ⟨by omega, ?_, _, _, _, x1, by omega, ?_⟩
  · rw [strOf_cut _ _ _ _ _ (by omega) (by omega), strOf_cut _ _ _ _ _ (by omega) (by omega)]
    simp only [ByteArray.size_append, strOf_size]
    omega
  simp only [ptr_some, ad_add, Nat.zero_add, Nat.add_zero, Nat.mul_one, Int.toNat_natCast]
  refine ⟨x3, x4, ?_⟩
  obtain ⟨r1, k1⟩ := x5 (.string (strOf (secAt f i) 0 512))
  have h4 := h.nowPut hi (f := secAt f i) (fun p => hfb _) k1.of_drew r1 rfl
  have k1' := k1.of_drew
  generalize w.drew.setCell ⟨g0, i, none⟩ (.string (strOf (secAt f i) 0 512)) = w2 at *
  obtain ⟨q3, c3, z1, z2, z3⟩ := h4.wait.push (t := 32) (ty := 32) #[.int .i64 i, .string (strOf (secAt f i) 0 512)] h4.lt h4.frz h4.colD (by omega) Try.underlying32 elem149 (by omega) rfl (by simp [Value.oneCell']) (by show g.wait.length + 1 ≤ _; omega)
  refine ⟨_, _, _, z1, ?_⟩
  obtain ⟨v, w3, zr, q4, c4, rfl, u1, u2, u3, u4, u5, u6, col', u7, u8, u9⟩ := z3
  refine ⟨_, _, zr, q4, _, c4, rfl, u1, u2, u3, wr64 (by omega) (hK _ col' ?_ ?_ ?_)⟩
  · refine (k1'.mono (T := ownC col1) fun j _ hj => ?_).trans (u4.mono fun j _ hj => ?_)
    · have hj : col1 j = 2 := hj
      show col1 j ≠ 0
      omega
    · show col1 j ≠ 0
      rcases hj with hj | rfl
      · omega
      · rw [h.colD]; omega
  · exact ⟨fun j hj => u7 j (by have := k1'.size; omega), u8⟩
  · have ne : ∀ k : Nat, k ≠ 5 → k ≠ 1 → ∀ j, j < w2.heap.size → (col1 j = 5 ∨ j = D) → col1 j ≠ k := fun k hk hk1 j _ hj => by
      rcases hj with hj | hj
      · omega
      · rw [hj, h.colD]; exact fun h => hk1 h.symm
    obtain ⟨xs, v1, v2⟩ := h4.safe
    have hd2 : D < w2.heap.size := h4.dlt
    have e3 : waitL g.wait ++ [.int .i64 i, .string (strOf (secAt f i) 0 512)] = waitL (g.wait ++ [(i, f)]) := by
      rw [← waitL_snoc, secAt_str]
      rfl
    have e4 : (g.wait ++ [(i, f)]).length = g.wait.length + 1 := by simp
    refine ⟨(u7 D hd2).trans h.colD, u8, u6, h4.now.kpc u4 (ne 2 (by omega) (by omega)) u7 (fun v => u5 0 v (by omega)), ⟨xs, v1.kpc u4 (ne 3 (by omega) (by omega)) u7 (fun v => u5 1 v (by omega)), v2⟩, h4.has.kpc u4 (ne 4 (by omega) (by omega)) u7 (fun v => u5 2 v (by omega)), ?_, ⟨h.ok.size, h4.ok.now, h.ok.safe, fun e he => ?_⟩⟩
    · show Row0 _ col' D 3 5 149 2 (g.wait ++ [(i, f)]).length (waitL (g.wait ++ [(i, f)]))
      rw [e4, ← e3]
      exact u9
    · have he : e ∈ g.wait ++ [(i, f)] := he
      simp only [List.mem_append, List.mem_singleton] at he
      rcases he with he | rfl
      · exact h.ok.wait e he
      · exact ⟨hi, hfb⟩
end
end Go.Proofs.Ytlgkcbdpaffigaa
