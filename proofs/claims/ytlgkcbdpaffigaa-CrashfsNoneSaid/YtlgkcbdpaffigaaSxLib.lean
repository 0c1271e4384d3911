/- Lemmas for working on the executor's conditions. -/
import Derived.Test.YtlgkcbdpaffigaaSxc
import Derived.ProofKit
set_option linter.unusedSimpArgs false
set_option linter.unusedVariables false
namespace Go.SX
open Go

/-! ### What a function leaves as it was -/
/-- w' is w, grown: but for the blocks of S, every block of w is as it was. -/
structure Kp (S : Nat → Prop) (w w' : World) : Prop where
  os : w'.os = w.os
  tape : w'.tape = w.tape
  out : w'.output = w.output
  frz : ∀ a : Addr, a.block < w.heap.size → w'.frozen? a = w.frozen? a
  size : w.heap.size ≤ w'.heap.size
  same : ∀ i, i < w.heap.size → ¬ S i → w'.heap[i]? = w.heap[i]?
abbrev none_ : Nat → Prop := fun _ => False
abbrev one_ (b : Nat) : Nat → Prop := fun i => i = b
theorem Kp.refl (S : Nat → Prop) (w : World) : Kp S w w := ⟨rfl, rfl, rfl, fun _ _ => rfl, Nat.le_refl _, fun _ _ _ => rfl⟩
theorem Kp.trans {S : Nat → Prop} {a b c : World} (h : Kp S a b) (k : Kp S b c) : Kp S a c :=
  ⟨k.os.trans h.os, k.tape.trans h.tape, k.out.trans h.out, fun x hx => (k.frz x (Nat.lt_of_lt_of_le hx h.size)).trans (h.frz x hx), Nat.le_trans h.size k.size, fun i hi hs => (k.same i (Nat.lt_of_lt_of_le hi h.size) hs).trans (h.same i hi hs)⟩
theorem Kp.mono {S T : Nat → Prop} {a b : World} (h : Kp S a b) (hs : ∀ i, i < a.heap.size → S i → T i) : Kp T a b :=
  ⟨h.os, h.tape, h.out, h.frz, h.size, fun i hi ht => h.same i hi fun hsi => ht (hs i hi hsi)⟩
/-- The second step may change what the first one laid. -/
theorem Kp.then {S T : Nat → Prop} {a b c : World} (h : Kp S a b) (k : Kp T b c) (hs : ∀ i, i < a.heap.size → T i → S i) : Kp S a c :=
  ⟨k.os.trans h.os, k.tape.trans h.tape, k.out.trans h.out, fun x hx => (k.frz x (Nat.lt_of_lt_of_le hx h.size)).trans (h.frz x hx), Nat.le_trans h.size k.size,
    fun i hi hn => (k.same i (Nat.lt_of_lt_of_le hi h.size) fun ht => hn (hs i hi ht)).trans (h.same i hi hn)⟩
theorem Kp.drew {S : Nat → Prop} {a b : World} (h : Kp S a b) : Kp S a b.drew := ⟨h.os, h.tape, h.out, h.frz, h.size, h.same⟩
theorem Kp.of_drew {S : Nat → Prop} {a b : World} (h : Kp S a.drew b) : Kp S a b := ⟨h.os, h.tape, h.out, h.frz, h.size, h.same⟩
theorem Kp.drew1 {S : Nat → Prop} {a : World} : Kp S a a.drew := (Kp.refl S a).drew
theorem alloc_get (b : World) (o : Obj) (i : Nat) : (b.alloc o).heap[i]? = if i = b.heap.size then some o else b.heap[i]? := by
  show (b.heap.push o)[i]? = _
  rw [Array.getElem?_push]
theorem alloc_size (b : World) (o : Obj) : (b.alloc o).heap.size = b.heap.size + 1 := by
  show (b.heap.push o).size = _
  simp
theorem Kp.alloc1 {S : Nat → Prop} {a b : World} (h : Kp S a b) (o : Obj) : Kp S a (b.alloc o) := by
  refine ⟨h.os, h.tape, h.out, fun x hx => ?_, Nat.le_trans h.size (by rw [alloc_size]; omega), fun i hi hs => ?_⟩
  · rw [← h.frz x hx]
    have := h.size
    unfold World.frozen?
    rw [alloc_get, if_neg (by omega)]
  · rw [← h.same i hi hs, alloc_get, if_neg (by have := h.size; omega)]
theorem Kp.alloc {S : Nat → Prop} {a b : World} (h : Kp S a b) (c : Array Value) (t : TypeId) : Kp S a (b.alloc (.cells c t)) := h.alloc1 _
theorem Kp.alloc_map {S : Nat → Prop} {a b : World} (h : Kp S a b) : Kp S a (b.alloc (.map #[] 0)) := h.alloc1 _
theorem Kp.setCell {S : Nat → Prop} {a b : World} (h : Kp S a b) {x : Addr} (v : Value) (hs : S x.block ∨ a.heap.size ≤ x.block) : Kp S a (b.setCell x v) := by
  refine ⟨h.os, h.tape, h.out, fun y hy => (World.frozen?_setCell _ _ _ _).trans (h.frz y hy), by simpa [World.setCell] using h.size, fun i hi hn => ?_⟩
  · rw [← h.same i hi hn]
    have : x.block ≠ i := fun e => by subst e; rcases hs with hs | hs; exact hn hs; omega
    simp [World.setCell, Array.getElem?_modify, this]
theorem cell_lt {w : World} {a : Addr} {v : Value} (h : w.cell? a = some v) : a.block < w.heap.size := by
  unfold World.cell? at h
  split at h
  · rename_i h'; exact (Array.getElem?_eq_some_iff.1 h').1
  · cases h
theorem Kp.cell {S : Nat → Prop} {w w' : World} (h : Kp S w w') {a : Addr} {v : Value} (hc : w.cell? a = some v) (hs : ¬ S a.block) : w'.cell? a = some v := by
  have := h.same a.block (cell_lt hc) hs
  unfold World.cell? at hc ⊢
  rw [this]; exact hc
theorem Kp.cell0 {w w' : World} (h : Kp none_ w w') {a : Addr} {v : Value} (hc : w.cell? a = some v) : w'.cell? a = some v := h.cell hc id
theorem Kp.below {W w' : World} (h : Kp none_ W w') : Go.RowKit.Below W.heap.size W w' := ⟨h.os, h.tape, h.out, h.size, fun k hk => h.same k hk id⟩
theorem Kp.frame {W w' : World} (h : Kp none_ W w') (may : MemPlace → Prop) : W.keptBut w' may := by
  refine ⟨h.os, h.out, fun i hi => ?_⟩
  have := h.same i hi id
  rw [this]
  cases hx : W.heap[i]? with
  | none => trivial
  | some o => cases o <;> simp
theorem Kp.keeps {S : Nat → Prop} {w w' : World} (h : Kp S w w') {bs : List Nat} (hb : ∀ b ∈ bs, b < w.heap.size ∧ ¬ S b) : Keeps w w' bs := ⟨h.size, fun b hm => h.same b (hb b hm).1 (hb b hm).2⟩
theorem Kp.keeps0 {S : Nat → Prop} {w w' : World} (h : Kp S w w') : Keeps w w' [] := ⟨h.size, fun b hm => by cases hm⟩

/-! ### Cells -/
theorem cell_add0 (w : World) (a : Addr) : w.cell? (a.add 0) = w.cell? a := by simp [Addr.add]
@[simp] theorem drew_cell (w : World) (a : Addr) : w.drew.cell? a = w.cell? a := rfl
@[simp] theorem drew_frozen (w : World) (a : Addr) : w.drew.frozen? a = w.frozen? a := rfl
@[simp] theorem drew_size (w : World) : w.drew.heap.size = w.heap.size := rfl
theorem add_block (a : Addr) (n : Nat) : (a.add n).block = a.block := by unfold Addr.add; split <;> rfl

/-- A slice's first n elements are b's, integers of a kind. -/
def Ints (w : World) (k : IntKind) (q : Option Addr) (n : Nat) (b : Int → Int) : Prop := ∀ i : Int, 0 ≤ i → i < n → ∃ a, q = some a ∧ w.cell? (a.add i.toNat) = some (.int k (b i))
theorem Ints.kp {S : Nat → Prop} {w w' : World} {k : IntKind} {q : Option Addr} {n : Nat} {b : Int → Int} (h : Ints w k q n b) (hk : Kp S w w') (hs : 0 < n → ∀ a, q = some a → ¬ S a.block) : Ints w' k q n b := fun i h0 h1 => by
  obtain ⟨a, e, hc⟩ := h i h0 h1
  exact ⟨a, e, hk.cell hc (by rw [add_block]; exact hs (by omega) a e)⟩
theorem Ints.kp0 {w w' : World} {k : IntKind} {q : Option Addr} {n : Nat} {b : Int → Int} (h : Ints w k q n b) (hk : Kp none_ w w') : Ints w' k q n b := h.kp hk fun _ _ _ => id
theorem Ints.drew {w : World} {k : IntKind} {q : Option Addr} {n : Nat} {b : Int → Int} (h : Ints w k q n b) : Ints w.drew k q n b := h
/-- Reading an element. -/
theorem Ints.get {w : World} {k : IntKind} {q : Option Addr} {n : Nat} {b : Int → Int} (h : Ints w k q n b) {i : Int} {K : Addr → Int → Prop} (h0 : 0 ≤ i) (h1 : i < n) (hK : ∀ a, q = some a → K a (b i)) :
    (0 ≤ i ∧ i < (n : Int)) ∧ Ptr q fun a => ∃ x, w.cell? (a.add (i.toNat * 1)) = some (.int k x) ∧ K a x := by
  obtain ⟨a, e, hc⟩ := h i h0 h1
  subst e
  exact ⟨⟨h0, h1⟩, b i, by rw [Nat.mul_one]; exact hc, hK a rfl⟩

/-! ### Steps -/
theorem bif_dec {p : Prop} [Decidable p] {A B : Prop} (h : p → A) (k : ¬ p → B) : bif decide p then A else B := by
  by_cases hp : p
  · simpa [hp] using h hp
  · simpa [hp] using k hp
theorem bif_b {c : Bool} {A B : Prop} (h : c = true → A) (k : c = false → B) : bif c then A else B := by
  cases c
  · exact k rfl
  · exact h rfl
theorem bif_not {c : Bool} {A B : Prop} (h : c = false → A) (k : c = true → B) : bif !c then A else B := by
  cases c
  · exact h rfl
  · exact k rfl
theorem bif_eq {a b : Int} {A B : Prop} (h : a = b → A) (k : a ≠ b → B) : bif a == b then A else B := by
  by_cases hp : a = b
  · simpa [hp] using h hp
  · have : (a == b) = false := by simpa using hp
    rw [this]; exact k hp
theorem bif_ne {a b : Int} {A B : Prop} (h : a ≠ b → A) (k : a = b → B) : bif a != b then A else B := by
  by_cases hp : a = b
  · have : (a != b) = false := by simp [hp]
    rw [this]; exact k hp
  · have : (a != b) = true := by simp [hp]
    rw [this]; exact h hp
theorem wrap64 {z : Int} (h : -9223372036854775808 ≤ z ∧ z < 9223372036854775808) : IntKind.wrap .i64 z = z := by
  simp [IntKind.wrap, IntKind.bits, IntKind.signed]
  split <;> omega
theorem wr64 {z : Int} {K : Int → Prop} (h : -9223372036854775808 ≤ z ∧ z < 9223372036854775808) (hK : K z) : Wr .i64 z K := by
  unfold Wr; rw [wrap64 h]; exact hK
theorem wr8 {z : Int} {K : Int → Prop} (h : 0 ≤ z ∧ z < 256) (hK : K z) : Wr .u8 z K := by
  have : IntKind.wrap .u8 z = z := by
    simp [IntKind.wrap, IntKind.bits, IntKind.signed]
    omega
  unfold Wr; rw [this]; exact hK
theorem Rets.mono {P : Program} {f : FuncId} {args : Array Value} {w : World} {R R' : Value → World → Prop} (h : Rets P f args w R) (hr : ∀ v w', R v w' → R' v w') : Rets P f args w R' :=
  Calls.mono h fun e w' ⟨v, he, hR⟩ => ⟨v, he, hr v w' hR⟩
theorem CallsVal.mono {P : Program} {f : Value} {args : Array Value} {w : World} {R R' : Value → World → Prop} (h : CallsVal P f args w R) (hr : ∀ v w', R v w' → R' v w') : CallsVal P f args w R' := by
  unfold CallsVal at h ⊢
  split at h
  · exact ⟨h.1, h.2.mono hr⟩
  · obtain ⟨fn, tmps, assign, body, hy, hR⟩ := h
    exact ⟨fn, tmps, assign, body, hy, hR.mono fun e w' ⟨v, he, hv⟩ => ⟨v, he, hr v w' hv⟩⟩
  · exact h.elim
/-- From the condition, with 'returned' in its end. -/
theorem rets_of {P : Program} {f : FuncId} {args : Array Value} {w : World} {R : Value → World → Prop} (h : Calls P f args w fun e w' => ∃ v, e = .returned v ∧ R v w') : Rets P f args w R := h
/-! ### Bits -/
theorem bv64 (m : Nat) (h : m < 2 ^ 63) : (BitVec.ofInt 64 (m : Int)).toNat = m := by
  simp only [BitVec.toNat_ofInt]
  omega
theorem xorI_nat {m n : Nat} (hm : m < 2 ^ 63) (hn : n < 2 ^ 63) : xorI .i64 (m : Int) (n : Int) = ((m ^^^ n : Nat) : Int) := by
  have hx : m ^^^ n < 2 ^ 63 := Nat.xor_lt_two_pow hm hn
  show IntKind.wrap .i64 ((BitVec.ofInt 64 (m : Int)) ^^^ (BitVec.ofInt 64 (n : Int))).toNat = _
  rw [BitVec.toNat_xor, bv64 m hm, bv64 n hn, wrap64 (by omega)]
theorem andI_nat {m n : Nat} (hm : m < 2 ^ 63) (hn : n < 2 ^ 63) : andI .i64 (m : Int) (n : Int) = ((m &&& n : Nat) : Int) := by
  have hx : m &&& n < 2 ^ 63 := Nat.and_lt_two_pow _ hn
  show IntKind.wrap .i64 ((BitVec.ofInt 64 (m : Int)) &&& (BitVec.ofInt 64 (n : Int))).toNat = _
  rw [BitVec.toNat_and, bv64 m hm, bv64 n hn, wrap64 (by omega)]
theorem orI_nat {m n : Nat} (hm : m < 2 ^ 63) (hn : n < 2 ^ 63) : orI .i64 (m : Int) (n : Int) = ((m ||| n : Nat) : Int) := by
  have hx : m ||| n < 2 ^ 63 := Nat.or_lt_two_pow hm hn
  show IntKind.wrap .i64 ((BitVec.ofInt 64 (m : Int)) ||| (BitVec.ofInt 64 (n : Int))).toNat = _
  rw [BitVec.toNat_or, bv64 m hm, bv64 n hn, wrap64 (by omega)]
theorem ad_add (b o k : Nat) : (⟨b, o, none⟩ : Addr).add k = ⟨b, o + k, none⟩ := by unfold Addr.add; split <;> simp_all
theorem cell_set_same {w : World} {a : Addr} {u : Value} (v : Value) (h : w.cell? a = some u) : (w.setCell a v).cell? a = some v := World.cell?_setCell_same _ _ _ h
theorem cell_set_off {w : World} {b o o' : Nat} (v : Value) (h : o ≠ o') : (w.setCell ⟨b, o, none⟩ v).cell? ⟨b, o', none⟩ = w.cell? ⟨b, o', none⟩ := World.cell?_setCell_other _ _ _ _ (fun e => h (by cases e; rfl))
theorem cell_set_far {w : World} {x a : Addr} (v : Value) (h : x.block ≠ a.block) : (w.setCell x v).cell? a = w.cell? a := World.cell?_setCell_other _ _ _ _ (fun e => h (by rw [e]))
theorem frozen_set {w : World} {x a : Addr} (v : Value) : (w.setCell x v).frozen? a = w.frozen? a := World.frozen?_setCell _ _ _ _
theorem heap_set_far {w : World} {x : Addr} {i : Nat} (v : Value) (h : x.block ≠ i) : (w.setCell x v).heap[i]? = w.heap[i]? := by simp [World.setCell, Array.getElem?_modify, h]
theorem cell_alloc {w : World} {a : Addr} {v : Value} (o : Obj) (h : w.cell? a = some v) : (w.alloc o).cell? a = some v := by
  have hl := cell_lt h
  unfold World.cell? at h ⊢
  rw [alloc_get, if_neg (by omega)]; exact h
theorem cell_alloc_new {w : World} {cs : Array Value} {t : TypeId} {j : Nat} {v : Value} (h : cs[j]? = some v) : (w.alloc (.cells cs t)).cell? ⟨w.heap.size, j, none⟩ = some v := by
  unfold World.cell?
  rw [alloc_get]; simpa using h

theorem frozen_lt {w : World} {a : Addr} (h : w.frozen? a = true) : a.block < w.heap.size := by
  unfold World.frozen? at h
  split at h
  · rename_i h'; exact (Array.getElem?_eq_some_iff.1 h').1
  · cases h
theorem frozen_same {w w' : World} {a : Addr} (h : w'.heap[a.block]? = w.heap[a.block]?) : w'.frozen? a = w.frozen? a := by
  unfold World.frozen?; rw [h]
/-! ### Records and marks -/
theorem Kp.putObj {S : Nat → Prop} {a b : World} (h : Kp S a b) {l : Nat} (o : Obj) (hl : a.heap.size ≤ l) : Kp S a (b.putObj l o) := by
  refine ⟨h.os, h.tape, h.out, fun x hx => ?_, by rw [World.putObj_size]; exact h.size, fun i hi hs => ?_⟩
  · rw [← h.frz x hx]
    exact frozen_same (World.putObj_heap_other (by omega))
  · rw [← h.same i hi hs]
    exact World.putObj_heap_other (by omega)
theorem Kp.putObj1 {S : Nat → Prop} {b : World} {l : Nat} {o : Obj} (o' : Obj) (hl : b.heap[l]? = some o) (ho : o.isCells = false) (ho' : o'.isCells = false) (hs : S l) : Kp S b (b.putObj l o') := by
  refine ⟨rfl, rfl, rfl, fun x hx => ?_, by rw [World.putObj_size]; exact Nat.le_refl _, fun i hi hn => ?_⟩
  · by_cases hx : x.block = l
    · unfold World.frozen?
      rw [hx, hl, World.putObj_heap_same (Array.getElem?_eq_some_iff.1 hl).1]
      cases o <;> cases o' <;> simp_all [Obj.isCells]
    · exact frozen_same (World.putObj_heap_other hx)
  · exact World.putObj_heap_other (fun e => hn (e ▸ hs))
theorem cell_obj_ne {w : World} {l : Nat} {o : Obj} {a : Addr} {v : Value} (hl : w.heap[l]? = some o) (ho : o.isCells = false) (hc : w.cell? a = some v) : a.block ≠ l := by
  rintro rfl
  unfold World.cell? at hc
  rw [hl] at hc
  cases o <;> simp_all [Obj.isCells]
/-- A block that is one cell of one's own. -/
structure Cel (w : World) (b : Nat) (v : Value) : Prop where
  cell : w.cell? ⟨b, 0, none⟩ = some v
  frz : w.frozen? ⟨b, 0, none⟩ = false
theorem Cel.lt {w : World} {b : Nat} {v : Value} (h : Cel w b v) : b < w.heap.size := cell_lt h.cell
theorem Cel.kp {S : Nat → Prop} {w w' : World} {b : Nat} {v : Value} (h : Cel w b v) (hk : Kp S w w') (hs : ¬ S b) : Cel w' b v := ⟨hk.cell h.cell hs, (hk.frz ⟨b, 0, none⟩ h.lt).trans h.frz⟩
theorem Cel.set {w : World} {b : Nat} {v : Value} (h : Cel w b v) (u : Value) : Cel (w.setCell ⟨b, 0, none⟩ u) b u := ⟨cell_set_same _ h.cell, by rw [frozen_set]; exact h.frz⟩
theorem Cel.off {w : World} {b c : Nat} {v : Value} (h : Cel w b v) (u : Value) (hne : c ≠ b) : Cel (w.setCell ⟨c, 0, none⟩ u) b v := ⟨by rw [cell_set_far _ hne]; exact h.cell, by rw [frozen_set]; exact h.frz⟩
theorem Cel.new (w : World) (v : Value) (t : TypeId) : Cel (w.alloc (.cells #[v] t)) w.heap.size v := ⟨cell_alloc_new rfl, by
  unfold World.frozen?; rw [alloc_get, if_pos rfl]; simp⟩
theorem Cel.alloc {w : World} {b : Nat} {v : Value} (h : Cel w b v) (o : Obj) : Cel (w.alloc o) b v := h.kp ((Kp.refl none_ w).alloc1 o) id
theorem Kp.set1 {w : World} (b : Nat) (u : Value) : Kp (one_ b) w (w.setCell ⟨b, 0, none⟩ u) := Kp.setCell (S := one_ b) (x := ⟨b, 0, none⟩) (Kp.refl (one_ b) w) _ (.inl rfl)
theorem add_add (a : Addr) (l i : Nat) : (a.add l).add i = a.add (l + i) := by
  unfold Addr.add
  by_cases h : l = 0
  · subst h; simp
  · by_cases h' : i = 0
    · subst h'; simp [h]
    · simp [h, h']; omega
/-- k bytes from a on, as a string. -/
def strOf (b : Int → Int) (a : Int) (k : Nat) : ByteArray := ⟨((List.range k).map fun i : Nat => UInt8.ofNat (b (a + i)).toNat).toArray⟩
theorem strOf_size (b : Int → Int) (a : Int) (k : Nat) : (strOf b a k).size = k := by simp [strOf, ByteArray.size]
theorem strOf_data (b : Int → Int) (a : Int) (k : Nat) : (strOf b a k).data.toList = (List.range k).map fun i : Nat => UInt8.ofNat (b (a + i)).toNat := by simp [strOf]
theorem strOf_get (b : Int → Int) (a : Int) (k i : Nat) (h : i < (strOf b a k).size) : (strOf b a k)[i] = UInt8.ofNat (b (a + i)).toNat := by
  have : (strOf b a k)[i] = (strOf b a k).data[i]'h := rfl
  rw [this]
  simp [strOf]
theorem strOf_beq (b : Int → Int) (a c : Int) (k : Nat) (ha : ∀ i : Nat, i < k → 0 ≤ b (a + i) ∧ b (a + i) < 256) (hc : ∀ i : Nat, i < k → 0 ≤ b (c + i) ∧ b (c + i) < 256) :
    ((strOf b a k).toList == (strOf b c k).toList) = true ↔ ∀ i : Nat, i < k → b (a + i) = b (c + i) := by
  rw [ByteArray.toList_eq, ByteArray.toList_eq, strOf_data, strOf_data, beq_iff_eq]
  constructor
  · intro h i hi
    have := congrArg (fun l => l[i]?) h
    simp only [List.getElem?_map, List.getElem?_range hi, Option.map_some, Option.some.injEq] at this
    have := congrArg UInt8.toNat this
    simp only [UInt8.toNat_ofNat'] at this
    have h1 := ha i hi
    have h2 := hc i hi
    omega
  · intro h
    apply List.map_congr_left
    intro i hi
    rw [h i (List.mem_range.1 hi)]
theorem Ints.str {w : World} {q : Option Addr} {n : Nat} {b : Int → Int} (h : Ints w .u8 q n b) (hr : ∀ i : Int, 0 ≤ i → i < n → 0 ≤ b i ∧ b i < 256) (cap l k : Nat) (hl : l + k ≤ n) (hc : n ≤ cap) : BytesAt w (cutA q cap l 1) (strOf b l k) := by
  intro i hi
  have hik : i < k := by rw [strOf_size] at hi; exact hi
  obtain ⟨a, e, hcl⟩ := h (l + i) (by omega) (by omega)
  subst e
  have hne : ¬ cap = l := by omega
  refine ⟨a.add l, by simp [cutA, hne], ?_⟩
  rw [add_add, show l + i = ((l : Int) + i).toNat by omega, hcl, strOf_get]
  have := hr (l + i) (by omega) (by omega)
  congr 2
  rw [UInt8.toNat_ofNat']
  omega

/-! ### Rows of one's own -/
def fresh (w : World) : Nat → Prop := fun i => w.heap.size ≤ i
def OwnRow (w : World) (own : Nat → Prop) (e : TypeId) (size : Nat) (v : Value) (n : Nat) (xs : List Value) : Prop :=
  xs.length = n * size ∧ ((v = .slice none 0 0 ∧ n = 0) ∨
    ∃ g cap cur, v = .slice (some ⟨g, 0, none⟩) n cap ∧ own g ∧ w.heap[g]? = some (Obj.cells cur e (0, 0)) ∧ n ≤ cap ∧ cap ≤ maxLen ∧ cur.size = cap * size ∧ cur.toList.take (n * size) = xs)
theorem OwnRow.nil (w : World) (own : Nat → Prop) (e : TypeId) (size : Nat) : OwnRow w own e size (.slice none 0 0) 0 [] := ⟨by simp, .inl ⟨rfl, rfl⟩⟩
theorem OwnRow.mono {w : World} {own own' : Nat → Prop} {e : TypeId} {size n : Nat} {v : Value} {xs : List Value} (h : OwnRow w own e size v n xs) (ho : ∀ i, own i → i < w.heap.size → own' i) : OwnRow w own' e size v n xs := by
  refine ⟨h.1, h.2.imp id ?_⟩
  rintro ⟨g, cap, cur, h1, h2, h3, h4⟩
  exact ⟨g, cap, cur, h1, ho g h2 (Array.getElem?_eq_some_iff.1 h3).1, h3, h4⟩
theorem OwnRow.kp {S : Nat → Prop} {w w' : World} {own : Nat → Prop} {e : TypeId} {size n : Nat} {v : Value} {xs : List Value} (h : OwnRow w own e size v n xs) (hk : Kp S w w') (hs : ∀ g n cap, v = .slice (some ⟨g, 0, none⟩) n cap → own g → ¬ S g) : OwnRow w' own e size v n xs := by
  refine ⟨h.1, h.2.imp id ?_⟩
  rintro ⟨g, cap, cur, h1, h2, h3, h4⟩
  exact ⟨g, cap, cur, h1, h2, (hk.same g (Array.getElem?_eq_some_iff.1 h3).1 (hs g n cap h1 h2)).trans h3, h4⟩
theorem OwnRow.slice {w : World} {own : Nat → Prop} {e : TypeId} {size n : Nat} {v : Value} {xs : List Value} (h : OwnRow w own e size v n xs) : ∃ q c, v = .slice q n c := by
  rcases h.2 with ⟨h1, h2⟩ | ⟨g, cap, cur, h1, _⟩
  · subst h2; exact ⟨_, _, h1⟩
  · exact ⟨_, _, h1⟩
theorem OwnRow.at {w : World} {own : Nat → Prop} {e : TypeId} {size n : Nat} {q : Option Addr} {m c : Nat} {xs : List Value} (h : OwnRow w own e size (.slice q m c) n xs) {j : Nat} {u : Value} (hj : xs[j]? = some u) : ∃ a, q = some a ∧ w.cell? (a.add j) = some u := by
  rcases h.2 with ⟨h1, h2⟩ | ⟨g, cap, cur, h1, h2, h3, h4, h5, h6, h7⟩
  · subst h2
    have : xs = [] := List.eq_nil_of_length_eq_zero (by simpa using h.1)
    subst this; simp at hj
  · cases h1
    refine ⟨_, rfl, ?_⟩
    have hsp : ((⟨g, 0, none⟩ : Addr).add j) = ⟨g, j, none⟩ := by unfold Addr.add; split <;> simp_all
    rw [hsp]
    simp only [World.cell?, h3]
    rw [← h7] at hj
    rw [List.getElem?_take] at hj
    split at hj
    · simpa using hj
    · cases hj
theorem setRow_kp {w : World} {g : Nat} {cur cur' : Array Value} {e : TypeId} (hg : w.heap[g]? = some (Obj.cells cur e (0, 0))) {S : Nat → Prop} (hs : S g) : Kp S w (w.setRow g cur') := by
  have hh : (w.setRow g cur').heap[g]? = some (Obj.cells cur' e (0, 0)) := setRow_heap w g cur cur' e _ hg
  refine ⟨rfl, rfl, rfl, fun a _ => ?_, by simp, fun i hi hn => setRow_other w g i _ (fun e => hn (e ▸ hs))⟩
  by_cases ha : a.block = g
  · unfold World.frozen?
    rw [ha, hh, hg]
  · unfold World.frozen?
    rw [setRow_other w g a.block _ ha]
/-- An element type's size, and its zero's. -/
def elemOk (P : Program) (e : TypeId) (size : Nat) : Bool :=
  match P.info? e with
  | some i => (match i.zero with | some z => Nat.beq i.size size && Nat.beq z.cells.size size && Nat.ble i.bytes 1024 | none => false)
  | none => false
theorem elemOk_spec {P : Program} {e : TypeId} {size : Nat} (h : elemOk P e size = true) : ∃ i z, P.info? e = some i ∧ i.zero = some z ∧ i.size = size ∧ z.cells.size = size ∧ i.bytes ≤ 1024 := by
  unfold elemOk at h
  split at h
  · rename_i i hi
    split at h
    · rename_i z hz
      simp only [Bool.and_eq_true] at h
      exact ⟨i, z, hi, hz, Nat.eq_of_beq_eq_true h.1.1, Nat.eq_of_beq_eq_true h.1.2, Nat.le_of_ble_eq_true h.2⟩
    · cases h
  · cases h
theorem append_own {P : Program} {w : World} {own : Nat → Prop} {t ty e : TypeId} {size : Nat} {v : Value} {n : Nat} {xs : List Value} {a : Addr} {m c : Nat} {news : List Value} {K : Value → World → Prop}
    (ht : P.underlying t = some (.slice e)) (he : elemOk P e size = true) (hsz : 0 < size)
    (hown : OwnRow w own e size v n xs) (hl : news.length = m * size) (hnews : ∀ j u, news[j]? = some u → w.cell? (a.add j) = some u) (h1 : ∀ u ∈ news, u.oneCell' = true) (hm : 0 < m) (hb : n + m ≤ 137438953472)
    (hK : ∀ v' w', OwnRow w' (fun i => own i ∨ fresh w i) e size v' (n + m) (xs ++ news) → Kp own w w' → K v' w') : Runs P (Builtin.append_ #[t, t] ty #[v, .slice (some a) m c]) w K := by
  obtain ⟨i, z, hi, hz, hsize, hzs, hby⟩ := elemOk_spec he
  subst hsize
  have h63 : n + m ≤ maxLen := by simp only [maxLen]; omega
  have hbytes : (n + m) * i.bytes ≤ 140737488355328 := Nat.le_trans (Nat.mul_le_mul_left _ hby) (by omega)
  have hlen : (xs ++ news).length = (n + m) * i.size := by rw [List.length_append, hown.1, hl, Nat.add_mul]
  have grown : ∀ old : Nat, old < n + m →
      OwnRow (w.drew.alloc (.cells (xs.toArray ++ news.toArray ++ Builtin.zeroCells z.cells (grownCap w (n + m) old e - (n + m))) e)) (fun i => own i ∨ fresh w i) e i.size (.slice (some ⟨w.heap.size, 0, none⟩) (n + m) (grownCap w (n + m) old e)) (n + m) (xs ++ news) ∧
      Kp own w (w.drew.alloc (.cells (xs.toArray ++ news.toArray ++ Builtin.zeroCells z.cells (grownCap w (n + m) old e - (n + m))) e)) := by
    intro old ho
    have hge := grownCap_ge w (n + m) old e
    refine ⟨⟨hlen, .inr ⟨w.heap.size, _, _, rfl, .inr (Nat.le_refl _), by rw [alloc_get]; exact if_pos rfl, hge, grownCap_le_maxLen w (n + m) old e h63, ?_, ?_⟩⟩, (Kp.refl own w).drew.alloc _ _⟩
    · simp only [Array.size_append, List.size_toArray, size_zeroCells, hzs, hown.1, hl, ← Nat.add_mul]
      congr 1
      omega
    · simp only [Array.toList_append, List.append_assoc]
      rw [← List.append_assoc, ← hlen]
      exact List.take_left
  rcases hown.2 with ⟨rfl, rfl⟩ | ⟨g, cap, cur, rfl, hog, hg, hnc, hcm, hcs, htake⟩
  · have hx : xs = [] := List.eq_nil_of_length_eq_zero (by simpa using hown.1)
    subst hx
    have hr := run_append_nil (P := P) w t ty e i z ht hi hz a m c news hl hnews (by omega) (by omega) (by simp only [Nat.zero_add] at hbytes; omega)
    obtain ⟨g1, g2⟩ := grown 0 (by omega)
    simp only [Nat.zero_add, List.nil_append, Array.empty_append] at g1 g2
    exact ⟨_, _, hr, hK _ _ (by simpa using g1) g2⟩
  · by_cases hroom : n + m ≤ cap
    · have hfit : n * i.size + news.length ≤ cur.size := by rw [hl, hcs, ← Nat.add_mul]; exact Nat.mul_le_mul_right _ hroom
      have hr := run_append_room (P := P) w t ty e i ht hi g n cap cur hg a m c news hl hnews h1 hroom hfit
      refine ⟨_, _, hr, hK _ _ ⟨hlen, .inr ⟨g, cap, _, rfl, .inl hog, setRow_heap w g cur _ e _ hg, hroom, hcm, ?_, ?_⟩⟩ (setRow_kp hg hog)⟩
      · simp only [List.size_toArray, List.length_append, List.length_take, List.length_drop, Array.length_toList]
        omega
      · rw [htake, ← hlen]
        exact List.take_left
    · have holds : ∀ j u, xs[j]? = some u → w.cell? ((⟨g, 0, none⟩ : Addr).add j) = some u := fun j u hj => by
        obtain ⟨_, e1, e2⟩ := hown.at hj
        cases e1; exact e2
      have hr := run_append_grow (P := P) w t ty e i z ht hi hz ⟨g, 0, none⟩ n cap xs hown.1 holds a m c news hl hnews (by omega) (by omega) (growslice_fits (by omega) hbytes)
      obtain ⟨g1, g2⟩ := grown cap (by omega)
      exact ⟨_, _, hr, hK _ _ g1 g2⟩
end Go.SX
