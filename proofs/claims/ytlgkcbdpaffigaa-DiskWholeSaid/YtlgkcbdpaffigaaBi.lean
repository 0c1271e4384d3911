import Derived.Test.YtlgkcbdpaffigaaBh
import Derived.Test.YtlgkcbdpaffigaaVcb
namespace Go.Proofs.Ytlgkcbdpaffigaa
open Go Go.SX Go.Proofs
set_option maxRecDepth 100000
set_option linter.unusedVariables false
set_option linter.unusedSimpArgs false
/-! ### The document's disk -/
def strL (f : Int → Int) (n : Nat) : List Value := (List.range n).map fun i : Nat => .string (strOf f (512 * i) 512)
def boolL (h : Nat → Bool) (n : Nat) : List Value := (List.range n).map fun i : Nat => .bool (h i)
def waitC (e : Nat × (Int → Int)) : List Value := [.int .i64 e.1, .string (strOf e.2 (512 * e.1) 512)]
def waitL (l : List (Nat × (Int → Int))) : List Value := l.flatMap waitC
theorem strL_get (f : Int → Int) {n i : Nat} (h : i < n) : (strL f n)[i]? = some (.string (strOf f (512 * i) 512)) := by simp [strL, h]
theorem boolL_get (f : Nat → Bool) {n i : Nat} (h : i < n) : (boolL f n)[i]? = some (.bool (f i)) := by simp [boolL, h]
theorem strOf_eq {f g : Int → Int} {a c : Int} {k : Nat} (h : ∀ i : Nat, i < k → f (a + i) = g (c + i)) : strOf f a k = strOf g c k := by
  unfold strOf
  congr 2
  apply List.map_congr_left
  intro i hi
  rw [h i (List.mem_range.1 hi)]
theorem strL_set (f g : Int → Int) (n k : Nat) : (strL f n).set k (.string (strOf g 0 512)) = strL (fun p => if 512 * (k : Int) ≤ p ∧ p < 512 * k + 512 then g (p - 512 * k) else f p) n := by
  apply List.ext_getElem
  · simp [strL]
  · intro i h1 h2
    rw [List.getElem_set]
    simp only [strL, List.getElem_map, List.getElem_range]
    by_cases e : k = i
    · subst e
      rw [if_pos rfl]
      congr 1
      refine strOf_eq fun j hj => ?_
      rw [if_pos (by omega)]
      congr 1; omega
    · rw [if_neg e]
      congr 1
      refine strOf_eq fun j hj => ?_
      rw [if_neg (by omega)]
theorem boolL_set (f : Nat → Bool) (n k : Nat) (t : Bool) : (boolL f n).set k (.bool t) = boolL (fun j => if j = k then t else f j) n := by
  apply List.ext_getElem
  · simp [boolL]
  · intro i h1 h2
    rw [List.getElem_set]
    simp only [boolL, List.getElem_map, List.getElem_range]
    by_cases e : k = i
    · rw [if_pos e, if_pos e.symm]
    · rw [if_neg e, if_neg (fun h => e h.symm)]
/-- A row that a struct's cell points at. -/
def Row0 (w : World) (col : Col) (D o k : Nat) (e : TypeId) (size n : Nat) (xs : List Value) : Prop := ∃ q c, w.cell? ⟨D, o, none⟩ = some (.slice q n c) ∧ OwnRow w (cl col k) e size (.slice q n c) n xs
structure RDsk (w : World) (col : Col) (D : Nat) (s : St) : Prop where
  colD : col D = 1
  lt : ∀ i, col i ≠ 0 → i < w.heap.size
  frz : ∀ o, w.frozen? ⟨D, o, none⟩ = false
  now : Row0 w col D 0 2 9 1 s.size (strL s.now s.size)
  safe : ∃ xs, Row0 w col D 1 3 9 1 s.size xs ∧ ∀ i, i < s.size → (∃ t, xs[i]? = some (.string t)) ∧ (s.has i = true → xs[i]? = some (.string (strOf s.safe (512 * i) 512)))
  has : Row0 w col D 2 4 4 1 s.size (boolL s.has s.size)
  wait : Row0 w col D 3 5 149 2 s.wait.length (waitL s.wait)
  ok : s.Ok
section
variable {w w' : World} {col col' : Col} {D : Nat} {s : St} {S : Nat → Prop}
theorem Row0.kpc {o k : Nat} {e : TypeId} {size n : Nat} {xs : List Value} (h : Row0 w col D o k e size n xs) (hk : Kp S w w') (hs : ∀ i, i < w.heap.size → S i → col i ≠ k) (hc : ∀ i, i < w.heap.size → col' i = col i) (hd : ∀ v, w.cell? ⟨D, o, none⟩ = some v → w'.cell? ⟨D, o, none⟩ = some v) : Row0 w' col' D o k e size n xs := by
  obtain ⟨q, c, h1, h2⟩ := h
  exact ⟨q, c, hd _ h1, OwnRow.kpc h2 hk hs hc⟩
theorem Row0.setAt {o k : Nat} {e : TypeId} {n : Nat} {xs : List Value} (h : Row0 w col D o k e 1 n xs) (hD : col D ≠ k) {i : Nat} (hi : i < n) :
    ∃ g c, w.cell? ⟨D, o, none⟩ = some (.slice (some ⟨g, 0, none⟩) n c) ∧ col g = k ∧ (∃ u, w.cell? ⟨g, i, none⟩ = some u) ∧ w.frozen? ⟨g, i, none⟩ = false ∧
      ∀ v, Row0 (w.setCell ⟨g, i, none⟩ v) col D o k e 1 n (xs.set i v) ∧ Kp (cl col k) w (w.setCell ⟨g, i, none⟩ v) := by
  obtain ⟨q, c, h1, h2⟩ := h
  obtain ⟨g, rfl, hg, hu, hf, hset⟩ := OwnRow.setAt h2 hi
  have hg' : col g = k := hg
  refine ⟨g, c, h1, hg', hu, hf, fun v => ⟨⟨_, c, ?_, (hset v).1⟩, (hset v).2⟩⟩
  exact (hset v).2.cell h1 (fun hh => hD hh)
theorem Row0.at {o k : Nat} {e : TypeId} {size n : Nat} {xs : List Value} (h : Row0 w col D o k e size n xs) : ∃ q c, w.cell? ⟨D, o, none⟩ = some (.slice q n c) ∧ ∀ j u, xs[j]? = some u → ∃ a, q = some a ∧ w.cell? (a.add j) = some u := by
  obtain ⟨q, c, h1, h2⟩ := h
  exact ⟨q, c, h1, fun j u hj => h2.at hj⟩
theorem RDsk.dlt (h : RDsk w col D s) : D < w.heap.size := h.lt D (by rw [h.colD]; omega)
theorem RDsk.kp (h : RDsk w col D s) (hk : Kp S w w') (hs : ∀ i, S i → col i = 0) : RDsk w' col D s := by
  have hd := h.dlt
  have nD : ¬ S D := fun hh => by have := hs D hh; rw [h.colD] at this; omega
  have ne : ∀ (k : Nat), k ≠ 0 → ∀ i, i < w.heap.size → S i → col i ≠ k := fun k hk i _ hh => by rw [hs i hh]; omega
  have hc : ∀ o v, w.cell? ⟨D, o, none⟩ = some v → w'.cell? ⟨D, o, none⟩ = some v := fun o v hv => hk.cell hv nD
  obtain ⟨xs, x1, x2⟩ := h.safe
  exact ⟨h.colD, fun i hi => Nat.lt_of_lt_of_le (h.lt i hi) hk.size, fun o => (hk.frz ⟨D, o, none⟩ hd).trans (h.frz o), h.now.kpc hk (ne 2 (by omega)) (fun _ _ => rfl) (hc 0), ⟨xs, x1.kpc hk (ne 3 (by omega)) (fun _ _ => rfl) (hc 1), x2⟩, h.has.kpc hk (ne 4 (by omega)) (fun _ _ => rfl) (hc 2), h.wait.kpc hk (ne 5 (by omega)) (fun _ _ => rfl) (hc 3), h.ok⟩
theorem RDsk.kp0 (h : RDsk w col D s) (hk : Kp none_ w w') : RDsk w' col D s := h.kp hk fun _ h => h.elim
theorem RDsk.drew (h : RDsk w col D s) : RDsk w.drew col D s := h.kp0 (Kp.refl none_ w).drew
/-- Only strings of 'Now' were changed. -/
theorem RDsk.nowSet (h : RDsk w col D s) {now' : Int → Int} (hk : Kp (cl col 2) w w') (hr : Row0 w' col D 0 2 9 1 s.size (strL now' s.size)) (hb : ∀ p, isByte (now' p)) : RDsk w' col D { s with now := now' } := by
  have hd := h.dlt
  have nD : ¬ cl col 2 D := fun hh => by have := h.colD; unfold cl at hh; omega
  have ne : ∀ (k : Nat), k ≠ 2 → ∀ i, i < w.heap.size → cl col 2 i → col i ≠ k := fun k hk i _ hh => by unfold cl at hh; omega
  have hc : ∀ o v, w.cell? ⟨D, o, none⟩ = some v → w'.cell? ⟨D, o, none⟩ = some v := fun o v hv => hk.cell hv nD
  obtain ⟨xs, x1, x2⟩ := h.safe
  exact ⟨h.colD, fun i hi => Nat.lt_of_lt_of_le (h.lt i hi) hk.size, fun o => (hk.frz ⟨D, o, none⟩ hd).trans (h.frz o), hr, ⟨xs, x1.kpc hk (ne 3 (by omega)) (fun _ _ => rfl) (hc 1), x2⟩, h.has.kpc hk (ne 4 (by omega)) (fun _ _ => rfl) (hc 2), h.wait.kpc hk (ne 5 (by omega)) (fun _ _ => rfl) (hc 3), ⟨h.ok.size, hb, h.ok.safe, h.ok.wait⟩⟩
theorem c96 (h : RDsk w col D s) (at_ n : Int) (hr : rightF at_ n = true) : Rets Try.prog 96 #[.pointer (some ⟨D, 0, none⟩), .int .i64 at_, .int .i64 n] w fun v w' => v = .int .i64 (needF s at_ n) ∧ w' = w := by
  refine ent [_, _, _] Try.func96 ((vcTry96 _ _ _ w _).mpr ?_)
  unfold VCTry96
  have hs := h.ok.size
  unfold rightF at hr
  have hr' := of_decide_eq_true hr
  obtain ⟨q, c, h1, _⟩ := h.now
  have e : (at_ + n + 511).tdiv 512 = (at_ + n + 511) / 512 := by rw [Int.tdiv_eq_ediv_of_nonneg (by omega)]
  simp only [ptr_some, ad_add, Nat.zero_add]
  refine ⟨_, _, _, h1, bif_dec (fun hp => wr64 (by omega) (wr64 (by omega) ⟨by omega, ?_⟩)) (fun hp => ⟨_, rfl, ?_, trivial⟩)⟩
  · rw [e]
    refine wr64 (by omega) (bif_dec (fun hx => wr64 (by omega) (wr64 (by omega) ⟨by omega, wr64 (by omega) ⟨_, rfl, ?_, trivial⟩⟩)) (fun hx => ⟨_, rfl, ?_, trivial⟩))
    · unfold needF; rw [if_neg (by omega)]; congr 1; omega
    · unfold needF; rw [if_neg (by omega)]; congr 1; omega
  · unfold needF; rw [if_pos (by omega)]
theorem row_bytes {own : Nat → Prop} {f : Int → Int} {q : Option Addr} {n m c : Nat} (h : OwnRow w own 5 1 (.slice q m c) n (byF f n)) (hf : ∀ p, isByte (f p)) : BytesAt w q (strOf f 0 n) := by
  intro i hi
  have hik : i < n := by rw [strOf_size] at hi; exact hi
  obtain ⟨a, e, hc⟩ := h.at (j := i) (u := .int .u8 (f i)) (byF_get _ hik)
  refine ⟨a, e, ?_⟩
  rw [hc, strOf_get]
  have hx := hf i
  unfold isByte at hx
  congr 2
  rw [UInt8.toNat_ofNat']
  simp only [Int.zero_add]
  omega
theorem c97 (w : World) : Rets Try.prog 97 #[] w fun v w' => v = .string (strOf (fun _ => 0) 0 512) ∧ Kp none_ w w' := by
  refine ent [] Try.func97 ((vcTry97 w _).mpr ?_)
  unfold VCTry97
  obtain ⟨i5, i51, i52, i53, i54⟩ := info5
  refine make_own (n := 512) Try.underlying25 ⟨i5, .int .u8 0, i51, i52, i53, rfl, by omega, fun w2 r2 k2 => ?_⟩ (by omega)
  have zrow : List.replicate 512 (Value.int .u8 0) = byF (fun _ => 0) 512 := by
    apply List.ext_getElem
    · rw [byF_len, List.length_replicate]
    · intro i h1 h2; simp only [byF, List.getElem_map, List.getElem_range, List.getElem_replicate]
  rw [zrow] at r2
  exact ⟨_, _, _, rfl, k2.keeps0, _, strOf_size _ _ _, row_bytes r2 (fun _ => by unfold isByte; omega), _, rfl, rfl, k2⟩
theorem strange_byte (i : Nat) (fill p : Int) : isByte (strangeF i fill p) := ⟨Int.emod_nonneg _ (by decide), Int.emod_lt_of_pos _ (by decide)⟩
theorem c98 (w : World) (i : Nat) (hi : i ≤ 4096) (fill : Int) (hf : isByte fill) : Rets Try.prog 98 #[.int .i64 i, .int .u8 fill] w fun v w' => v = .string (strOf (strangeF i fill) 0 512) ∧ Kp none_ w w' := by
  refine ent [_, _] Try.func98 ((vcTry98 _ _ w _).mpr ?_)
  unfold VCTry98
  obtain ⟨i5, i51, i52, i53, i54⟩ := info5
  refine make_own (n := 512) Try.underlying25 ⟨i5, .int .u8 0, i51, i52, i53, rfl, by omega, fun w2 r2 k2 => ?_⟩ (by omega)
  have zrow : List.replicate 512 (Value.int .u8 0) = byF (fun p => if p < 0 then strangeF i fill p else 0) 512 := by
    apply List.ext_getElem
    · rw [byF_len, List.length_replicate]
    · intro j h1 h2
      simp only [byF, List.getElem_map, List.getElem_range, List.getElem_replicate]
      rw [if_neg (by omega)]
  rw [zrow] at r2
  unfold isByte at hf
  refine ⟨_, _, _, rfl, k2.keeps0, fun j w' => (0 ≤ j ∧ j ≤ 512) ∧ Kp none_ w w' ∧ OwnRow w' (fresh w) 5 1 (.slice (some ⟨w.heap.size, 0, none⟩) 512 512) 512 (byF (fun p => if p < j then strangeF i fill p else 0) 512), fun j _ => (512 - j).toNat, ⟨by omega, k2, r2⟩, ?_⟩
  rintro j w3 ⟨hj, k3, r3⟩
  refine bif_dec (fun hlt => ?_) (fun hge => ?_)
  rotate_left
  · have : j = 512 := by omega
    subst this
    rw [byF_congr (g := strangeF i fill) (fun k hk => if_pos (by omega))] at r3
    exact ⟨_, strOf_size _ _ _, row_bytes r3 (strange_byte i fill), _, rfl, rfl, k3⟩
  obtain ⟨J, rfl⟩ := Int.eq_ofNat_of_zero_le hj.1
  obtain ⟨g, e, hog, hu, hfz, hset⟩ := OwnRow.setAt r3 (i := J) (by omega)
  cases e
  have ew : (fill + 7 * (i : Int) + (J : Int)).tmod 256 = (fill + 7 * (i : Int) + (J : Int)) % 256 := Int.tmod_eq_emod_of_nonneg (by omega)
  refine wr64 (by omega) (wr64 (by omega) (wr64 (by omega) (wr64 (by omega) ⟨by omega, ?_⟩)))
  rw [ew]
  refine wr8 (by omega) ⟨by omega, ?_⟩
  simp only [ptr_some, ad_add, Nat.mul_one, Nat.zero_add, Nat.add_zero, Int.toNat_natCast]
  obtain ⟨r4, k4⟩ := hset (.int .u8 ((fill + 7 * (i : Int) + (J : Int)) % 256))
  refine ⟨hu, hfz, wr64 (by omega) ⟨⟨by omega, k3.then k4 (fun i hi hh => by unfold fresh at hh; omega), ?_⟩, by first | omega | (dsimp only; omega)⟩⟩
  rw [byF_set] at r4
  rw [byF_congr (g := fun p => if p = (J : Int) then (fill + 7 * (i : Int) + (J : Int)) % 256 else if p < (J : Int) then strangeF i fill p else 0)]
  · exact r4
  · intro k hk
    by_cases e : (k : Int) = (J : Int)
    · rw [if_pos e, if_pos (by omega), e]; rfl
    · rw [if_neg e]
      by_cases e2 : (k : Int) < (J : Int)
      · rw [if_pos e2, if_pos (by omega)]
      · rw [if_neg e2, if_neg (by omega)]
end
end Go.Proofs.Ytlgkcbdpaffigaa
