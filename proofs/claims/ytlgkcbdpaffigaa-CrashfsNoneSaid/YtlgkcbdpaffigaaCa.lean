/- Names: the document's directory, its rows. -/
import Derived.Test.YtlgkcbdpaffigaaBa
import Derived.Test.YtlgkcbdpaffigaaSxEnt
import Derived.Test.YtlgkcbdpaffigaaSxRw
import Derived.Test.YtlgkcbdpaffigaaVna
namespace Go.Proofs.Ytlgkcbdpaffigaa
open Go Go.SX Go.Proofs
set_option maxRecDepth 100000
set_option linter.unusedVariables false
set_option linter.unusedSimpArgs false
theorem toL (s : ByteArray) : s.toList = strL s := ByteArray.toList_eq s
theorem toL_ba (l : List UInt8) : (ba l).toList = l := by rw [toL, strL_ba]
theorem strL_size (s : ByteArray) : (strL s).length = s.size := by
  show s.data.toList.length = s.data.size
  exact Array.length_toList
def named (s : List UInt8) : Bool := decide (1 ≤ s.length ∧ s.length ≤ 100)
theorem c87 (s : List UInt8) (w : World) : Rets Try.prog 87 #[.string (ba s)] w fun v w' => v = .bool (named s) ∧ w' = w := by
  refine ent [_] Try.func87 ((vcTry87 _ w _).mpr ?_)
  unfold VCTry87
  rw [ba_size]
  refine bif_dec (fun h => ⟨_, rfl, ?_, rfl⟩) (fun h => ⟨_, rfl, ?_, rfl⟩)
  · congr 1; unfold named; rw [decide_eq_decide]; omega
  · congr 1; unfold named; symm; rw [decide_eq_false_iff_not]; omega
theorem c44 (s : List UInt8) (w : World) : Rets Try.prog 44 #[.string (ba s)] w fun v w' => v = .bool (named s) ∧ w' = w := by
  refine ent [_] Try.func44 ((vcTry44 _ w _).mpr ?_)
  unfold VCTry44
  rw [ba_size]
  refine bif_dec (fun h => ⟨_, rfl, ?_, rfl⟩) (fun h => ⟨_, rfl, ?_, rfl⟩)
  · congr 1; unfold named; rw [decide_eq_decide]; omega
  · congr 1; unfold named; symm; rw [decide_eq_false_iff_not]; omega
def entC (e : Ent) : List Value := [.string (ba e.1), .int .i64 e.2]
theorem entC_len (e : Ent) : (entC e).length = 2 := rfl
theorem entC_one (e : Ent) : ∀ u ∈ entC e, u.oneCell' = true := fun u hu => by
  simp only [entC, List.mem_cons, List.not_mem_nil, or_false] at hu
  rcases hu with rfl | rfl <;> simp [Value.oneCell']
theorem elem105 : elemOk Try.prog 105 2 = true := by kernel_rfl
theorem und80 : Try.prog.underlying 80 = some (.slice 105) := Try.underlying80
abbrev EAt (w : World) (q : Option Addr) (l : List Ent) : Prop := RowsAt w 2 entC q l
abbrev EIn (w : World) (Q : Nat → Prop) (q : Option Addr) (l : List Ent) : Prop := RwIn w Q 2 entC q l
theorem c49 {w : World} {q : Option Addr} {c : Nat} {l : List Ent} (h : EAt w q l) (hl : l.length ≤ 1000000) (s : List UInt8) : Rets Try.prog 49 #[.slice q l.length c, .string (ba s)] w fun v w' => w' = w ∧ ∃ i : Int, v = .int .i64 i ∧ ((i = -1 ∧ has Prod.fst l s = false) ∨ ∃ (j : Nat) (hj : j < l.length), i = j ∧ (l[j]).1 = s) := by
  refine ent [_, _] Try.func49 ((vcTry49 _ _ _ _ w _).mpr ?_)
  unfold VCTry49
  refine ⟨fun i w' => ∃ j : Nat, i = j ∧ j ≤ l.length ∧ w' = w ∧ ∀ x (hx : x < l.length), x < j → (l[x]).1 ≠ s, fun i _ => (l.length - i).toNat, ⟨0, rfl, by omega, rfl, fun x hx h => by omega⟩, ?_⟩
  rintro i w3 ⟨j, rfl, hj, rfl, hn⟩
  refine bif_dec (fun h1 => ?_) (fun h1 => ⟨_, rfl, rfl, _, rfl, .inl ⟨rfl, ?_⟩⟩)
  · have hjl : j < l.length := by omega
    refine ⟨⟨by omega, by omega⟩, h.get hjl fun a _ ha => ⟨_, ha 0 _ rfl, ?_⟩⟩
    rw [toL_ba, toL_ba]
    refine bif_b (fun e => ⟨_, rfl, rfl, _, rfl, .inr ⟨j, hjl, rfl, by simpa using e⟩⟩) (fun e => wr64 (by omega) ⟨⟨j + 1, by omega, by omega, rfl, fun x hx hxj => ?_⟩, by first | omega | (dsimp only; omega)⟩)
    by_cases ee : x = j
    · subst ee; simpa using e
    · exact hn x hx (by omega)
  · cases hh : has Prod.fst l s with
    | false => rfl
    | true =>
      obtain ⟨b, hb, e⟩ := has_iff.1 hh
      obtain ⟨x, hx, rfl⟩ := List.getElem_of_mem hb
      exact absurd e (hn x hx (by omega))
theorem c94 {w : World} {q : Option Addr} {c : Nat} {l : List Ent} (h : EAt w q l) (hl : l.length ≤ 1000000) (id : Int) : Rets Try.prog 94 #[.slice q l.length c, .int .i64 id] w fun v w' => w' = w ∧ v = .bool (idIn l id) := by
  refine ent [_, _] Try.func94 ((vcTry94 _ _ _ _ w _).mpr ?_)
  unfold VCTry94
  refine ⟨fun i w' => ∃ j : Nat, i = j ∧ j ≤ l.length ∧ w' = w ∧ ∀ x (hx : x < l.length), x < j → (l[x]).2 ≠ id, fun i _ => (l.length - i).toNat, ⟨0, rfl, by omega, rfl, fun x hx h => by omega⟩, ?_⟩
  rintro i w3 ⟨j, rfl, hj, rfl, hn⟩
  refine bif_dec (fun h1 => ?_) (fun h1 => ⟨_, rfl, rfl, ?_⟩)
  · have hjl : j < l.length := by omega
    refine ⟨⟨by omega, by omega⟩, h.get hjl fun a _ ha => ⟨_, ha 1 _ rfl, bif_eq (fun e => ⟨_, rfl, rfl, ?_⟩) (fun e => wr64 (by omega) ⟨⟨j + 1, by omega, by omega, rfl, fun x hx hxj => ?_⟩, by first | omega | (dsimp only; omega)⟩)⟩⟩
    · rw [idIn_iff.2 ⟨_, List.getElem_mem hjl, e⟩]
    · by_cases ee : x = j
      · subst ee; exact e
      · exact hn x hx (by omega)
  · congr 1
    symm
    cases hh : idIn l id with
    | false => rfl
    | true =>
      obtain ⟨b, hb, e⟩ := idIn_iff.1 hh
      obtain ⟨x, hx, rfl⟩ := List.getElem_of_mem hb
      exact absurd e (hn x hx (by omega))
/-- A list's rows in blocks that are new. -/
theorem push_ent {w : World} {own : Nat → Prop} {v : Value} {l : List Ent} {n : Nat} (b : Ent) {K : Value → World → Prop} (hrow : OwnRow w own 105 2 v n (flatC entC l)) (hn : n = l.length) (hb : l.length + 1 ≤ 137438953472)
    (hK : ∀ q' c' w', OwnRow w' (fun i => own i ∨ fresh w i) 105 2 (.slice q' (l.length + 1) c') (l ++ [b]).length (flatC entC (l ++ [b])) → Kp own w w' → Kp own (w.alloc (.cells #[.string (ba b.1), .int .i64 b.2] 105)) w' → K (.slice q' (l.length + 1) c') w') :
    Runs Try.prog (Builtin.append_ #[80, 80] 80 #[v, .slice (some ⟨w.heap.size, 0, none⟩) 1 1]) (w.alloc (.cells #[.string (ba b.1), .int .i64 b.2] 105)) K := push_row b entC_len entC_one (by omega) und80 elem105 rfl hrow hn hb hK
theorem c104 {w : World} {q : Option Addr} {c : Nat} {l : List Ent} (h : EAt w q l) (hl : l.length ≤ 1000000) (s : List UInt8) : Rets Try.prog 104 #[.slice q l.length c, .string (ba s)] w fun v w' =>
    ∃ q' c', v = .slice q' (withoutK Prod.fst l s).length c' ∧ EIn w' (fun i => w.heap.size ≤ i) q' (withoutK Prod.fst l s) ∧ Kp none_ w w' := by
  refine ent [_, _] Try.func104 ((vcTry104 _ _ _ _ w _).mpr ?_)
  unfold VCTry104
  refine ⟨fun i q n c w' => ∃ (j : Nat) (own : Nat → Prop), i = j ∧ j ≤ l.length ∧ n = (withoutK Prod.fst (l.take j) s).length ∧ (∀ i, own i → w.heap.size ≤ i) ∧ OwnRow w' own 105 2 (.slice q n c) (withoutK Prod.fst (l.take j) s).length (flatC entC (withoutK Prod.fst (l.take j) s)) ∧ Kp (fun i => w.heap.size ≤ i) w w', fun i _ _ _ _ => (l.length - i).toNat, ⟨0, fun _ => False, rfl, by omega, by simp [withoutK], fun i h => h.elim, by simpa [withoutK, flatC] using OwnRow.nil _ _ _ _, Kp.refl _ _⟩, ?_⟩
  rintro i q3 n3 c3 w3 ⟨j, own, rfl, hj, rfl, ho, r3, k3⟩
  have k3n := k3.narrow (Nat.le_refl _)
  refine bif_dec (fun h1 => ?_) (fun h1 => ⟨_, rfl, q3, c3, ?_, ?_, k3n⟩)
  · have hjl : j < l.length := by omega
    have et : l.take (j + 1) = l.take j ++ [l[j]] := List.take_succ_eq_append_getElem hjl
    refine ⟨⟨by omega, by omega⟩, (h.kp0 k3n).get hjl fun a _ ha => ⟨_, ha 0 _ rfl, ?_⟩⟩
    rw [toL_ba, toL_ba]
    refine bif_not (fun e => ?_) (fun e => wr64 (by omega) ⟨⟨j + 1, own, by omega, by omega, ?_, ho, ?_, k3⟩, by first | omega | (dsimp only; omega)⟩)
    · have en : withoutK Prod.fst (l.take (j + 1)) s = withoutK Prod.fst (l.take j) s ++ [l[j]] := by
        rw [et]
        have : (!(l[j].1 == s)) = true := by rw [e]; rfl
        simp only [withoutK, List.filter_append, List.filter_cons, this, if_true, List.filter_nil]
      refine ⟨⟨by omega, by omega⟩, (h.kp0 k3n).get hjl fun a _ ha => ⟨_, _, ⟨ha 0 _ rfl, ha 1 _ rfl, trivial⟩, ?_⟩⟩
      have hle : (withoutK Prod.fst (l.take j) s).length ≤ l.length := Nat.le_trans (List.length_filter_le _ _) (by rw [List.length_take]; omega)
      refine push_ent l[j] r3 rfl (by omega) fun q4 c4 w4 r4 k4 k4' => ⟨_, _, _, rfl, k4'.keeps0, wr64 (by omega) ⟨⟨j + 1, fun i => own i ∨ fresh w3 i, by omega, by omega, by rw [en]; simp, ?_, ?_, ?_⟩, by first | omega | (dsimp only; omega)⟩⟩
      · rintro i (hi | hi)
        · exact ho i hi
        · exact Nat.le_trans k3.size hi
      · rw [en]; exact r4
      · exact k3.trans (k4.mono fun i _ hi => ho i hi)
    · rw [et]
      have : (!(l[j].1 == s)) = false := by rw [e]; rfl
      simp only [withoutK, List.filter_append, List.filter_cons, this, List.filter_nil]
      simp
    · rw [et]
      have : (!(l[j].1 == s)) = false := by rw [e]; rfl
      have e2 : withoutK Prod.fst (l.take j ++ [l[j]]) s = withoutK Prod.fst (l.take j) s := by
        simp only [withoutK, List.filter_append, List.filter_cons, this, List.filter_nil]
        simp
      rw [e2]; exact r3
  · have : j = l.length := by omega
    subst this
    rw [List.take_length]
  · have : j = l.length := by omega
    subst this
    rw [List.take_length] at r3
    exact rwIn_of entC_len (by omega) r3 ho
theorem ins_take (x : Ent) (L : List Ent) {j : Nat} (h : j < L.length) : insGo x (L.take (j + 1)) = insStep x (insGo x (L.take j)) L[j] := by
  unfold insGo
  rw [List.take_succ_eq_append_getElem h, List.foldl_append]
  rfl
theorem ins_len (x : Ent) : ∀ (L : List Ent) (st : List Ent × Bool), (L.foldl (insStep x) st).1.length ≤ st.1.length + L.length * 2
  | [], st => by simp
  | b :: r, st => by
    rw [List.foldl_cons]
    have := ins_len x r (insStep x st b)
    have h2 : (insStep x st b).1.length ≤ st.1.length + 2 := by
      unfold insStep
      split <;> simp
    simp only [List.length_cons]
    omega
theorem c103 {w : World} {q : Option Addr} {c : Nat} {l : List Ent} (h : EAt w q l) (hl : l.length ≤ 1000000) (s : List UInt8) (id : Int) : Rets Try.prog 103 #[.slice q l.length c, .string (ba s), .int .i64 id] w fun v w' =>
    ∃ q' c', v = .slice q' (with5 l s id).length c' ∧ EIn w' (fun i => w.heap.size ≤ i) q' (with5 l s id) ∧ Kp none_ w w' := by
  refine ent [_, _, _] Try.func103 ((vcTry103 _ _ _ _ _ w _).mpr ?_)
  unfold VCTry103
  refine (c104 h hl s).mono ?_
  rintro v w1 ⟨q2, c2, rfl, ⟨h2, _⟩, k1⟩
  have hL : (withoutK Prod.fst l s).length ≤ 1000000 := Nat.le_trans (List.length_filter_le _ _) hl
  have hw : with5 l s id = if (insGo (s, id) (withoutK Prod.fst l s)).2 = true then (insGo (s, id) (withoutK Prod.fst l s)).1 else (insGo (s, id) (withoutK Prod.fst l s)).1 ++ [(s, id)] := rfl
  rw [hw]
  generalize withoutK Prod.fst l s = L at *
  have hz := k1.size
  refine ⟨_, _, _, rfl, k1.keeps0, fun i q n c t w' => ∃ (j : Nat) (own : Nat → Prop), i = j ∧ j ≤ L.length ∧ n = (insGo (s, id) (L.take j)).1.length ∧ t = (insGo (s, id) (L.take j)).2 ∧ (∀ i, own i → w1.heap.size ≤ i) ∧ OwnRow w' own 105 2 (.slice q n c) (insGo (s, id) (L.take j)).1.length (flatC entC (insGo (s, id) (L.take j)).1) ∧ Kp (fun i => w1.heap.size ≤ i) w1 w', fun i _ _ _ _ _ => (L.length - i).toNat,
    ⟨0, fun _ => False, rfl, by omega, rfl, rfl, fun i h => h.elim, OwnRow.nil _ _ _ _, Kp.refl _ _⟩, ?_⟩
  rintro i q3 n3 c3 t3 w3 ⟨j, own, rfl, hj, rfl, rfl, ho, r3, k3⟩
  have k3n := k3.narrow (Nat.le_refl _)
  have K3 : Kp none_ w w3 := k1.trans k3n
  have lenj : (insGo (s, id) (L.take j)).1.length ≤ 2000000 := by
    have := ins_len (s, id) (L.take j) ([], false)
    simp only [List.length_nil, List.length_take] at this
    unfold insGo
    omega
  refine bif_dec (fun h1 => ?_) (fun h1 => ?_)
  · have hjl : j < L.length := by omega
    have et := ins_take (s, id) L hjl
    -- one more, of the list
    have one : ∀ {w5 : World} {own5 : Nat → Prop} {q5 : Option Addr} {c5 : Nat} (A : List Ent), A.length ≤ 2000001 → Kp (fun i => w1.heap.size ≤ i) w1 w5 → (∀ i, own5 i → w1.heap.size ≤ i) → OwnRow w5 own5 105 2 (.slice q5 A.length c5) A.length (flatC entC A) → insGo (s, id) (L.take (j + 1)) = (A ++ [L[j]], (insGo (s, id) (L.take (j + 1))).2) →
        Runs Try.prog (Builtin.append_ #[80, 80] 80 #[.slice q5 A.length c5, .slice (some ⟨w5.heap.size, 0, none⟩) 1 1]) (w5.alloc (.cells #[.string (ba L[j].1), .int .i64 L[j].2] 105)) fun v w6 => ∃ q n c, v = .slice q n c ∧ Keeps (w5.alloc (.cells #[.string (ba L[j].1), .int .i64 L[j].2] 105)) w6 [] ∧ Wr .i64 (j + 1) fun i => (∃ (j : Nat) (own : Nat → Prop), i = j ∧ j ≤ L.length ∧ n = (insGo (s, id) (L.take j)).1.length ∧ (insGo (s, id) (L.take ((i - 1).toNat + 1))).2 = (insGo (s, id) (L.take j)).2 ∧ (∀ i, own i → w1.heap.size ≤ i) ∧ OwnRow w6 own 105 2 (.slice q n c) (insGo (s, id) (L.take j)).1.length (flatC entC (insGo (s, id) (L.take j)).1) ∧ Kp (fun i => w1.heap.size ≤ i) w1 w6) ∧ (L.length - i).toNat < (L.length - (j : Int)).toNat := by
      intro w5 own5 q5 c5 A hA k5 ho5 r5 e5
      refine push_ent L[j] r5 rfl (by omega) fun q4 c4 w4 r4 k4 k4' => ⟨_, _, _, rfl, k4'.keeps0, wr64 (by omega) ⟨⟨j + 1, fun i => own5 i ∨ fresh w5 i, by omega, by omega, by rw [e5]; simp, by rw [show ((j : Int) + 1 - 1).toNat + 1 = j + 1 by omega], ?_, by rw [e5]; exact (by simpa using r4), k5.trans (k4.mono fun i _ hi => ho5 i hi)⟩, by first | omega | (dsimp only; omega)⟩⟩
      rintro i (hi | hi)
      · exact ho5 i hi
      · exact Nat.le_trans k5.size hi
    have fin : ∀ {w6 : World} {q6 : Option Addr} {n6 c6 : Nat} {i : Int} {t : Bool}, t = (insGo (s, id) (L.take (j + 1))).2 → i = (j : Int) + 1 → (∃ (j : Nat) (own : Nat → Prop), i = j ∧ j ≤ L.length ∧ n6 = (insGo (s, id) (L.take j)).1.length ∧ (insGo (s, id) (L.take ((i - 1).toNat + 1))).2 = (insGo (s, id) (L.take j)).2 ∧ (∀ i, own i → w1.heap.size ≤ i) ∧ OwnRow w6 own 105 2 (.slice q6 n6 c6) (insGo (s, id) (L.take j)).1.length (flatC entC (insGo (s, id) (L.take j)).1) ∧ Kp (fun i => w1.heap.size ≤ i) w1 w6) →
        ∃ (j : Nat) (own : Nat → Prop), i = j ∧ j ≤ L.length ∧ n6 = (insGo (s, id) (L.take j)).1.length ∧ t = (insGo (s, id) (L.take j)).2 ∧ (∀ i, own i → w1.heap.size ≤ i) ∧ OwnRow w6 own 105 2 (.slice q6 n6 c6) (insGo (s, id) (L.take j)).1.length (flatC entC (insGo (s, id) (L.take j)).1) ∧ Kp (fun i => w1.heap.size ≤ i) w1 w6 := by
      rintro w6 q6 n6 c6 i t rfl rfl ⟨j', own', e1, e2, e3, _, e5⟩
      have : j' = j + 1 := by omega
      subst this
      exact ⟨j + 1, own', e1, e2, e3, rfl, e5⟩
    have rows : ∀ {w5 : World}, Kp (fun i => w1.heap.size ≤ i) w1 w5 → EAt w5 q2 L := fun k => h2.kp0 (k.narrow (Nat.le_refl _))
    have eI : insStep (s, id) (insGo (s, id) (L.take j)) L[j] = ((if (insGo (s, id) (L.take j)).2 = false ∧ Op.bytesLess s L[j].1 = true then (insGo (s, id) (L.take j)).1 ++ [(s, id)] else (insGo (s, id) (L.take j)).1) ++ [L[j]], (insGo (s, id) (L.take j)).2 || Op.bytesLess s L[j].1) := rfl
    refine bif_not (fun ht => ?_) (fun ht => ?_)
    · refine ⟨⟨by omega, by omega⟩, (rows k3).get hjl fun a _ ha => ⟨_, ha 0 _ rfl, ?_⟩⟩
      rw [toL_ba, toL_ba]
      refine bif_b (fun hb => ?_) (fun hb => ?_)
      · have en : insGo (s, id) (L.take (j + 1)) = ((insGo (s, id) (L.take j)).1 ++ [(s, id)] ++ [L[j]], true) := by rw [et, eI, if_pos ⟨ht, hb⟩, hb, Bool.or_true]
        refine push_ent (s, id) r3 rfl (by omega) fun q4 c4 w4 r4 k4 k4' => ⟨_, _, _, rfl, k4'.keeps0, ⟨by omega, by omega⟩, ?_⟩
        have k34 := k3.trans (k4.mono fun i _ hi => ho i hi)
        refine (rows k34).get hjl fun a _ ha => ⟨_, _, ⟨ha 0 _ rfl, ha 1 _ rfl, trivial⟩, ?_⟩
        have := one ((insGo (s, id) (L.take j)).1 ++ [(s, id)]) (by simp; omega) k34 (own5 := fun i => own i ∨ fresh w3 i) (fun i (hi : own i ∨ fresh w3 i) => hi.elim (ho i) fun hf => Nat.le_trans k3.size hf) (by simpa using r4) (by rw [en])
        simp only [List.length_append, List.length_cons, List.length_nil, Nat.zero_add] at this
        obtain ⟨v, w6, hr, q, n, c, e1, e2, e3⟩ := this
        exact ⟨v, w6, hr, q, n, c, e1, e2, by
          unfold Wr at e3 ⊢
          rw [wrap64 (by omega)] at e3 ⊢
          exact ⟨fin (by rw [en]) rfl e3.1, e3.2⟩⟩
      · have en : insGo (s, id) (L.take (j + 1)) = ((insGo (s, id) (L.take j)).1 ++ [L[j]], false) := by rw [et, eI, if_neg (by rw [hb]; simp), hb, ht]; rfl
        refine ⟨⟨by omega, by omega⟩, (rows k3).get hjl fun a _ ha => ⟨_, _, ⟨ha 0 _ rfl, ha 1 _ rfl, trivial⟩, ?_⟩⟩
        obtain ⟨v, w6, hr, q, n, c, e1, e2, e3⟩ := one (insGo (s, id) (L.take j)).1 (by omega) k3 ho r3 (by rw [en])
        exact ⟨v, w6, hr, q, n, c, e1, e2, by
          unfold Wr at e3 ⊢
          rw [wrap64 (by omega)] at e3 ⊢
          exact ⟨fin (by rw [en]; exact ht) rfl e3.1, e3.2⟩⟩
    · have en : insGo (s, id) (L.take (j + 1)) = ((insGo (s, id) (L.take j)).1 ++ [L[j]], true) := by rw [et, eI, if_neg (by rw [ht]; simp), ht]; rfl
      refine ⟨⟨by omega, by omega⟩, (rows k3).get hjl fun a _ ha => ⟨_, _, ⟨ha 0 _ rfl, ha 1 _ rfl, trivial⟩, ?_⟩⟩
      obtain ⟨v, w6, hr, q, n, c, e1, e2, e3⟩ := one (insGo (s, id) (L.take j)).1 (by omega) k3 ho r3 (by rw [en])
      exact ⟨v, w6, hr, q, n, c, e1, e2, by
        unfold Wr at e3 ⊢
        rw [wrap64 (by omega)] at e3 ⊢
        exact ⟨fin (by rw [en]; exact ht) rfl e3.1, e3.2⟩⟩
  · have ej : j = L.length := by omega
    subst ej
    rw [List.take_length] at *
    refine bif_not (fun ht => ?_) (fun ht => ?_)
    · rw [if_neg (by rw [ht]; decide)]
      refine push_ent (s, id) r3 rfl (by omega) fun q4 c4 w4 r4 k4 k4' => ⟨_, _, _, rfl, k4'.keeps0, _, rfl, q4, c4, by simp, rwIn_of entC_len (by omega) r4 (fun i (hi : own i ∨ fresh w3 i) => hi.elim (fun h => Nat.le_trans hz (ho i h)) fun hf => Nat.le_trans K3.size hf), K3.then k4 fun i hi hh => by have := ho i hh; omega⟩
    · rw [if_pos ht]
      exact ⟨_, rfl, q3, c3, rfl, rwIn_of entC_len (by omega) r3 fun i hi => Nat.le_trans hz (ho i hi), K3⟩
end Go.Proofs.Ytlgkcbdpaffigaa
