/- Names: all names; whether a name stands for a number. -/
import Derived.Test.YtlgkcbdpaffigaaCf
import Derived.Sort.KeysCollected
import Derived.Sort.OwnSorted
import Derived.Sort.Walk0
namespace Go.Proofs.Ytlgkcbdpaffigaa
open Go Go.SX Go.Proofs Go.Sort
set_option maxRecDepth 100000
set_option linter.unusedVariables false
set_option linter.unusedSimpArgs false
theorem flat_str (l : List (List UInt8)) : flatC strC l = l.map encStr := by
  induction l with
  | nil => rfl
  | cons a r ih =>
    have : flatC strC (a :: r) = strC a ++ flatC strC r := by simp [flatC]
    rw [this, ih]
    rfl
theorem sorted_keys {l all : List Ent} (ha : Asc Prod.fst l) (hp : all.Perm l) : (all.map Prod.fst).mergeSort (fun x y => decide (x ≤ y)) = l.map Prod.fst := by
  have h1 : (all.map Prod.fst).mergeSort (fun x y => decide (x ≤ y)) = (l.map Prod.fst).mergeSort (fun x y => decide (x ≤ y)) := mergeSort_of_perm (hp.map Prod.fst)
  rw [h1]
  refine List.mergeSort_of_pairwise ?_
  rw [List.pairwise_map]
  rw [List.pairwise_iff_getElem]
  intro i j hi hj hij
  have := asc_get ha i j hij hj
  rw [bytesLess_eq] at this
  simp only [decide_eq_true_eq] at this ⊢
  exact List.le_of_lt this
theorem kp_sorted {w : World} {g n : Nat} {os : Array Obj} {cur : Array Value} {e : TypeId} (d : Array (List UInt8)) (hb : w.heap[g]? = some (.cells cur e (0, 0))) : Kp (one_ g) w (grow (putRow encStr (Sort.ahead w n) g 0 d) os) := by
  have hg := grownBy_sorted (w := w) (g := g) (n := n) (os := os) d
  refine ⟨rfl, rfl, rfl, fun a ha => ?_, hg.size, fun i hi hn => hg.block i hi (fun e => hn (Option.some.inj e))⟩
  by_cases h : a.block = g
  · unfold World.frozen?
    rw [h, hb, heap_sorted d hb]
  · exact frozen_same (hg.block a.block ha (fun e => h (Option.some.inj e)))
/-- A map's names, sorted. -/
theorem c83 {w : World} {a : Addr} {m : Option Nat} {l : List Ent} (hc : w.cell? a = some (.map m)) (hm : MapO w m l) (ha : Asc Prod.fst l) (hl : l.length ≤ 1000000) : Rets Try.prog 83 #[.func (.func 108) #[] #[.pointer (some a)]] w fun v w' =>
    ∃ (q : Option Addr) (c : Nat), v = .slice q l.length c ∧ RowsAt w' 1 strC q (l.map Prod.fst) ∧ (∀ a, q = some a → w.heap.size ≤ a.block) ∧ Kp none_ w w' := by
  refine ent [_] Try.func83 ((vcTry83 _ w _).mpr ?_)
  unfold VCTry83
  have h106 : Rets Try.prog 106 #[.func (.func 108) #[] #[.pointer (some a)]] w fun v w' =>
    ∃ (q : Option Addr) (c : Nat) (all : List Ent), v = .slice q all.length c ∧ all.Perm l ∧ OwnRow w' (fun i => w.heap.size ≤ i) 9 1 v all.length (flatC strC (all.map Prod.fst)) ∧ Kp none_ w w' := by
    refine ent [_] Try.func106 ((vcTry106 _ w _).mpr ?_)
    unfold VCTry106
    refine (c113 hc hm (asc_nk ha) hl).mono ?_
    rintro v w' ⟨q, c, all, rfl, h⟩
    exact ⟨_, _, _, rfl, h.2.2.keeps0, _, rfl, q, c, all, rfl, h⟩
  refine h106.mono ?_
  rintro v w1 ⟨q, c, all, rfl, hp, hr, k1⟩
  refine ⟨_, _, _, rfl, k1.keeps0, ?_⟩
  have hlen := hp.length_eq
  have hs := sorted_keys ha hp
  rcases hr.2 with ⟨e, e0⟩ | ⟨g, cap, cur, e, hg, hb, h1, h2, h3, h4⟩
  · have hall : all = [] := List.eq_nil_of_length_eq_zero e0
    subst hall
    cases e
    have : l = [] := List.eq_nil_of_length_eq_zero (by simpa using hlen.symm)
    subst this
    refine Calls.mono (Try.slices_Sort_string_none none 0 w1) ?_
    rintro e w2 ⟨rfl, e2⟩
    obtain rfl := e2.symm
    exact ⟨_, rfl, rfl, (Kp.refl none_ _).keeps0, _, rfl, none, 0, by simp [hlen], fun i hi => by simp at hi, (fun a e => by cases e), k1⟩
  · cases e
    have hH : Holds encStr w1 g 0 (all.map Prod.fst).toArray := holds_of_block hb (by
      rw [flat_str] at h4
      simpa using h4)
    have hgl : g < w1.heap.size := (Array.getElem?_eq_some_iff.1 hb).1
    have hcall := Try.slices_Sort_string g 0 c (all.map Prod.fst) w1 hH hgl (by simp; omega)
    rw [List.length_map] at hcall
    refine Calls.mono hcall ?_
    rintro e w2 ⟨rfl, n, os, rfl⟩
    have kk := kp_sorted (n := n) (os := os) (((all.map Prod.fst).mergeSort fun x y => decide (x ≤ y)).toArray) hb
    have KK : Kp none_ w (grow (putRow encStr (Sort.ahead w1 n) g 0 ((all.map Prod.fst).mergeSort fun x y => decide (x ≤ y)).toArray) os) := k1.then kk fun i hi e => by
      have e : i = g := e
      omega
    refine ⟨_, rfl, rfl, kk.keeps0, _, rfl, some ⟨g, 0, none⟩, c, by rw [hlen], ?_, fun a e => by cases e; exact hg, KK⟩
    have hl2 : ((all.map Prod.fst).mergeSort fun x y => decide (x ≤ y)).length = (all.map Prod.fst).length := List.length_mergeSort _
    have hrow := ownsRow_sorted (os := os) (n := n) (ss := all.map Prod.fst) hl2 (base := 0) (Nat.zero_le g) hb (cap := c) (by simpa using h1) h2 h3
    rw [hs] at hrow ⊢
    have hh := heap_sorted (n := n) (os := os) (l.map Prod.fst).toArray hb
    have : OwnRow (grow (putRow encStr (Sort.ahead w1 n) g 0 (l.map Prod.fst).toArray) os) (fun _ => True) 9 1 (.slice (some ⟨g, 0, none⟩) all.length c) (l.map Prod.fst).length (flatC strC (l.map Prod.fst)) := by
      refine ⟨by rw [flat_str]; simp, .inr ⟨g, c, _, by rw [hlen]; simp, trivial, hh, by simp; omega, h2, by simp [putCells, h3], ?_⟩⟩
      rw [Nat.mul_one, flat_str]
      exact take_putCells cur (l.map Prod.fst) (by simp; omega)
    exact rows_of strC_len (by omega) this
theorem c39 {w : World} {O : Nat → Prop} {b o : Nat} {S : List Ent} {ws : List Chg} (h : DR w O b o S ws) (ha : Asc Prod.fst (lastE S ws)) (hl : (lastE S ws).length ≤ 1000000) : Rets Try.prog 39 #[ptA b o] w fun v w' =>
    ∃ (q : Option Addr) (c : Nat), v = .slice q (lastE S ws).length c ∧ RowsAt w' 1 strC q ((lastE S ws).map Prod.fst) ∧ (∀ a, q = some a → w.heap.size ≤ a.block) ∧ Kp none_ w w' := by
  refine ent [_] Try.func39 ((vcTry39 _ w _).mpr ?_)
  unfold VCTry39
  refine bif_b (fun hh => by cases hh) (fun _ => ?_)
  simp only [ptr_some, ad3, Nat.add_zero]
  obtain ⟨m, e0, hm⟩ := h.now
  have h84 : Rets Try.prog 84 #[.map m] w fun v w' => v = .func (.func 108) #[] #[.pointer (some ⟨w.heap.size, 0, none⟩)] ∧ w'.cell? ⟨w.heap.size, 0, none⟩ = some (.map m) ∧ Kp none_ w w' := by
    refine ent [_] Try.func84 ((vcTry84 _ w _).mpr ?_)
    unfold VCTry84
    exact fun _ => ⟨_, rfl, rfl, (Cel.new w (.map m) 76).cell, (Kp.refl none_ _).alloc1 _⟩
  refine ⟨_, e0, h84.mono ?_⟩
  rintro v w1 ⟨rfl, e1, k1⟩
  refine ⟨_, rfl, k1.keeps0, (c83 e1 (hm.kp k1 fun _ _ => id) ha hl).mono ?_⟩
  rintro v w2 ⟨q, c, rfl, r, f, k2⟩
  exact ⟨_, _, _, rfl, k2.keeps0, _, rfl, q, c, rfl, r, fun a e => Nat.le_trans k1.size (f a e), k1.trans k2⟩
end Go.Proofs.Ytlgkcbdpaffigaa
