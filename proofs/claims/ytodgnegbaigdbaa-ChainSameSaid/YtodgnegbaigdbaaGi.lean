import Derived.Test.YtodgnegbaigdbaaGd
import Derived.Test.YtodgnegbaigdbaaVcg
namespace Go.Proofs.Ytodgnegbaigdbaa
open Go Go.SX Go.Proofs
set_option maxRecDepth 100000
set_option linter.unusedVariables false
set_option linter.unusedSimpArgs false
/-! ### Tokens expanded -/
/-- May a token be? -/
def rightT (t : Tok) : Bool := if t.2.1 = 0 then decide (t.2.2 = 0) else decide (t.1 = 0 ∧ (3 ≤ t.2.1 ∧ t.2.1 ≤ 258) ∧ (1 ≤ t.2.2 ∧ t.2.2 ≤ 32768))
def copyN : Nat → Int → List Int → List Int
  | 0, _, out => out
  | k + 1, d, out => copyN k d (out ++ [out.getD (out.length - d).toNat 0])
def exF (most : Int) : List Tok → List Int → List Int × Int
  | [], out => (out, 0)
  | t :: r, out => if rightT t = false ∨ t.2.2 > out.length then ([], 3) else if max 1 t.2.1 > most - out.length then ([], 5) else exF most r (if t.2.1 = 0 then out ++ [t.1] else copyN t.2.1.toNat t.2.2 out)
theorem copyN_len (d : Int) : ∀ (k : Nat) (out : List Int), (copyN k d out).length = out.length + k
  | 0, out => rfl
  | k + 1, out => by unfold copyN; rw [copyN_len d k]; simp; omega
theorem copyN_range (d : Int) : ∀ (k : Nat) (out : List Int), (∀ x ∈ out, 0 ≤ x ∧ x < 256) → ∀ x ∈ copyN k d out, 0 ≤ x ∧ x < 256
  | 0, out, h => h
  | k + 1, out, h => by
    unfold copyN
    refine copyN_range d k _ fun x hx => ?_
    simp only [List.mem_append, List.mem_singleton] at hx
    rcases hx with hx | rfl
    · exact h x hx
    · rw [List.getD_eq_getElem?_getD]
      cases hg : out[((out.length : Int) - d).toNat]? with
      | none => simp
      | some y => exact h y (List.mem_of_getElem? hg)
theorem exF_range (most : Int) : ∀ (l : List Tok) (out : List Int), (∀ t ∈ l, 0 ≤ t.1 ∧ t.1 < 256) → (∀ x ∈ out, 0 ≤ x ∧ x < 256) → ∀ x ∈ (exF most l out).1, 0 ≤ x ∧ x < 256
  | [], out, _, h => h
  | t :: r, out, hl, h => by
    unfold exF
    split
    · simp
    split
    · simp
    refine exF_range most r _ (fun t ht => hl t (.tail _ ht)) ?_
    split
    · intro x hx
      simp only [List.mem_append, List.mem_singleton] at hx
      rcases hx with hx | rfl
      · exact h x hx
      · exact hl t (.head _)
    · exact copyN_range _ _ _ h
def byR (l : List Int) : List Value := l.map fun x => .int .u8 x
theorem elem5 : elemOk Try.prog 5 1 = true := by kernel_rfl
section
variable {w w' : World} {q : Option Addr} {n cp : Nat}
theorem c58 (w : World) (x lo hi : Int) : Rets Try.prog 58 #[.int .i64 x, .int .i64 lo, .int .i64 hi] w fun v w' => v = .bool (decide (lo ≤ x ∧ x ≤ hi)) ∧ w' = w := by
  refine ent [_, _, _] Try.func58 ((vcTry58 _ _ _ w _).mpr ?_)
  unfold VCTry58
  refine bif_dec (fun h => ⟨_, rfl, ?_, rfl⟩) (fun h => ⟨_, rfl, ?_, rfl⟩)
  · rw [show decide (lo ≤ x ∧ x ≤ hi) = decide (x ≤ hi) by simp only [decide_eq_decide]; omega]
  · rw [show decide (lo ≤ x ∧ x ≤ hi) = false by simp only [decide_eq_false_iff_not]; omega]
theorem c45 (w : World) (t : Tok) : Rets Try.prog 45 #[tokV t] w fun v w' => v = .bool (rightT t) ∧ Kp none_ w w' := by
  refine ent [_] Try.func45 ((vcTry45 _ _ _ w _).mpr ?_)
  unfold VCTry45
  have kA : Kp none_ w (w.alloc (.cells #[Value.int .u8 t.1, .int .i64 t.2.1, .int .i64 t.2.2] 49)) := (Kp.refl none_ w).alloc1 _
  have sA : (w.alloc (.cells #[Value.int .u8 t.1, .int .i64 t.2.1, .int .i64 t.2.2] 49)).heap.size = w.heap.size + 1 := alloc_size _ _
  generalize w.alloc (.cells #[Value.int .u8 t.1, .int .i64 t.2.1, .int .i64 t.2.2] 49) = WA at *
  refine bif_eq (fun h _ => ⟨_, rfl, ?_, kA⟩) (fun h => bif_eq (fun h1 _ => ?_) (fun h1 _ => ⟨_, rfl, ?_, kA⟩))
  · unfold rightT
    rw [if_pos h]
    congr 1
  · refine (c58 WA _ _ _).mono ?_
    rintro v wx ⟨rfl, e⟩
    obtain rfl := e.symm
    refine ⟨_, rfl, (Kp.refl none_ _).keeps (fun i hi => ⟨by simp at hi; omega, id⟩), bif_b (fun h2 _ => (c58 WA _ _ _).mono ?_) (fun h2 _ => ⟨_, rfl, ?_, kA⟩)⟩
    · rintro v wx ⟨rfl, e⟩
      obtain rfl := e.symm
      have h2 := of_decide_eq_true h2
      refine ⟨_, rfl, (Kp.refl none_ _).keeps (fun i hi => ⟨by simp at hi; omega, id⟩), fun _ => ⟨_, rfl, ?_, kA⟩⟩
      unfold rightT
      rw [if_neg h]
      congr 1
      simp only [decide_eq_decide]
      omega
    · have h2 := of_decide_eq_false h2
      unfold rightT
      rw [if_neg h]
      congr 1
      symm
      simp only [decide_eq_false_iff_not]
      omega
  · unfold rightT
    rw [if_neg h]
    congr 1
    symm
    simp only [decide_eq_false_iff_not]
    omega
theorem c46 (w : World) (t : Tok) : Rets Try.prog 46 #[tokV t] w fun v w' => v = .bool (rightT t) ∧ Kp none_ w w' := by
  refine ent [_] Try.func46 ((vcTry46 _ _ _ w _).mpr ?_)
  unfold VCTry46
  have kA : Kp none_ w (w.alloc (.cells #[Value.int .u8 t.1, .int .i64 t.2.1, .int .i64 t.2.2] 49)) := (Kp.refl none_ w).alloc1 _
  generalize w.alloc (.cells #[Value.int .u8 t.1, .int .i64 t.2.1, .int .i64 t.2.2] 49) = WA at *
  have no : ¬ ((t.2.1 = 0 ∧ t.2.2 = 0) ∨ (t.2.1 ≠ 0 ∧ t.1 = 0 ∧ (3 ≤ t.2.1 ∧ t.2.1 ≤ 258) ∧ (1 ≤ t.2.2 ∧ t.2.2 ≤ 32768))) → Value.bool false = .bool (rightT t) := fun h => by
    unfold rightT
    congr 1
    symm
    split
    · simp only [decide_eq_false_iff_not]; omega
    · simp only [decide_eq_false_iff_not]; omega
  refine bif_eq (fun h => bif_eq (fun h1 _ => ⟨_, rfl, ?_, kA⟩) (fun h1 => bif_eq (fun h2 => bif_dec (fun h3 => by omega) (fun h3 _ => ⟨_, rfl, no (by omega), kA⟩)) (fun h2 _ => ⟨_, rfl, no (by omega), kA⟩)))
    (fun h => bif_eq (fun h2 => bif_dec (fun h3 => bif_dec (fun h4 => bif_dec (fun h5 _ => ⟨_, rfl, ?_, kA⟩) (fun h5 _ => ⟨_, rfl, no (by omega), kA⟩)) (fun h4 _ => ⟨_, rfl, no (by omega), kA⟩)) (fun h3 _ => ⟨_, rfl, no (by omega), kA⟩)) (fun h2 _ => ⟨_, rfl, no (by omega), kA⟩))
  · unfold rightT
    rw [if_pos h, decide_eq_true h1]
  · unfold rightT
    rw [if_neg h]
    congr 1
    simp only [decide_eq_decide]
    omega
/-- One byte behind a row of one's own; the block T stays. -/
theorem by_append {wA : World} {T : Nat} {out : List Int} {c : Nat} (x : Int) {K : Value → World → Prop} (hrow : OwnRow wA (fun i => fresh w i ∧ i ≠ T) 5 1 (.slice q out.length c) out.length (byR out)) (hT : T < wA.heap.size) (hk : Kp none_ w wA) (hl : out.length ≤ 2147483647)
    (hK : ∀ q' c' w', OwnRow w' (fun i => fresh w i ∧ i ≠ T) 5 1 (.slice q' (out ++ [x]).length c') (out ++ [x]).length (byR (out ++ [x])) → Kp none_ w w' → T < w'.heap.size → Keeps (wA.alloc (.cells #[.int .u8 x] 5)) w' [T] → K (.slice q' (out ++ [x]).length c') w') :
    Runs Try.prog (Builtin.append_ #[25, 25] 25 #[.slice q out.length c, .slice (some ⟨wA.heap.size, 0, none⟩) 1 1]) (wA.alloc (.cells #[.int .u8 x] 5)) K := by
  have hs := hk.size
  refine append_new (own := fun i => fresh w i ∧ i ≠ T) (xs := byR out) #[Value.int .u8 x] Try.underlying25 elem5 (by omega) hrow rfl (by simp [ok_u8]) (by omega) ?_
  intro q' c' w' h1 h2 h3
  have e : out.length + 1 = (out ++ [x]).length := by simp
  rw [e] at h1 ⊢
  refine hK q' c' w' ?_ (hk.then h2 fun i hi h => by have := h.1; unfold fresh at this; omega) (Nat.lt_of_lt_of_le hT h2.size) (h3.keeps fun b hb => ?_)
  · have : byR (out ++ [x]) = byR out ++ #[Value.int .u8 x].toList := by simp [byR]
    rw [this]
    refine h1.mono fun i hi _ => ?_
    rcases hi with hi | hi
    · exact hi
    · unfold fresh at *; omega
  · simp only [List.mem_singleton] at hb
    subst hb
    exact ⟨by rw [alloc_size]; omega, fun h => h.2 rfl⟩
theorem copyLoop {wA : World} {T : Nat} (t : Tok) {out : List Int} {c : Nat} {K : Option Addr → Nat → Nat → World → Prop} (hlen : 0 ≤ t.2.1 ∧ t.2.1 ≤ 258) (hd : 0 < t.2.1 → 1 ≤ t.2.2 ∧ t.2.2 ≤ out.length) (hl : out.length ≤ 2147483000)
    (hrow : OwnRow wA (fun i => fresh w i ∧ i ≠ T) 5 1 (.slice q out.length c) out.length (byR out)) (hT : T < wA.heap.size) (hk : Kp none_ w wA)
    (hK : ∀ q' c' w', OwnRow w' (fun i => fresh w i ∧ i ≠ T) 5 1 (.slice q' (copyN t.2.1.toNat t.2.2 out).length c') (copyN t.2.1.toNat t.2.2 out).length (byR (copyN t.2.1.toNat t.2.2 out)) → Kp none_ w w' → T < w'.heap.size → K q' (copyN t.2.1.toNat t.2.2 out).length c' w') :
    ∃ (I : Int → Option Addr → Nat → Nat → World → Prop) (M : Int → Option Addr → Nat → Nat → World → Nat), I 0 q out.length c wA ∧ ∀ (i22 : Int) (q23 : Option Addr) (n24 n25 : Nat) (w26 : World), I i22 q23 n24 n25 w26 →
      Known w26 [(T, [(0, .int .u8 t.1), (1, .int .i64 t.2.1), (2, .int .i64 t.2.2)])] → bif decide (i22 < t.2.1) then
        Wr .i64 ((n24 : Int) - t.2.2) fun i27 => (0 ≤ i27 ∧ i27 < (n24 : Int)) ∧ Ptr q23 fun a28 => ∃ i29, w26.cell? (a28.add (i27.toNat * 1)) = some (.int .u8 i29) ∧
          Runs Try.prog (Builtin.append_ #[25, 25] 25 #[.slice q23 n24 n25, .slice (some ⟨w26.heap.size, 0, none⟩) 1 1]) (w26.alloc (.cells #[.int .u8 i29] 5)) fun v30 w31 => ∃ q32 n33 n34, v30 = .slice q32 n33 n34 ∧
            Keeps (w26.alloc (.cells #[.int .u8 i29] 5)) w31 [T] ∧ Wr .i64 (i22 + 1) fun i35 => SameVals [.int .u8 t.1, .int .i64 t.2.1, .int .i64 t.2.2] [.int .u8 t.1, .int .i64 t.2.1, .int .i64 t.2.2] ∧ I i35 q32 n33 n34 w31 ∧ M i35 q32 n33 n34 w31 < M i22 q23 n24 n25 w26
      else K q23 n24 n25 w26 := by
  refine ⟨fun i q' m c' w' => (0 ≤ i ∧ i ≤ t.2.1) ∧ ∃ o : List Int, copyN (t.2.1 - i).toNat t.2.2 o = copyN t.2.1.toNat t.2.2 out ∧ m = o.length ∧ (o.length : Int) = out.length + i ∧ OwnRow w' (fun i => fresh w i ∧ i ≠ T) 5 1 (.slice q' m c') o.length (byR o) ∧ Kp none_ w w' ∧ T < w'.heap.size, fun i _ _ _ _ => (t.2.1 - i).toNat,
    ⟨by omega, out, by simp, rfl, by omega, hrow, hk, hT⟩, ?_⟩
  rintro i q' m c' w1 ⟨hi, o, ho, rfl, hol, hr, k1, hT1⟩
  refine fun _ => bif_dec (fun h => ?_) (fun h => ?_)
  · have hd' := hd (by omega)
    obtain ⟨k, hk'⟩ : ∃ k, (t.2.1 - i).toNat = k + 1 := ⟨(t.2.1 - i).toNat - 1, by omega⟩
    have hj : ((o.length : Int) - t.2.2).toNat < o.length := by omega
    obtain ⟨a, rfl, ha⟩ := hr.at (j := ((o.length : Int) - t.2.2).toNat) (u := .int .u8 (o.getD ((o.length : Int) - t.2.2).toNat 0)) (by
      unfold byR
      rw [List.getElem?_map, List.getD_eq_getElem?_getD, List.getElem?_eq_getElem hj]; rfl)
    refine wr64 (by omega) ⟨by omega, ?_⟩
    simp only [ptr_some, Nat.mul_one]
    refine ⟨_, ha, by_append _ hr hT1 k1 (by omega) fun q2 c2 w2 h1 h2 h3 h4 => ⟨_, _, _, rfl, h4, wr64 (by omega) ⟨rfl, ⟨by omega, _, ?_, rfl, ?_, h1, h2, h3⟩, by first | omega | (dsimp only; omega)⟩⟩⟩
    · rw [← ho, hk', show (t.2.1 - (i + 1)).toNat = k by omega]
      rfl
    · simp; omega
  · have : (t.2.1 - i).toNat = 0 := by omega
    rw [this] at ho
    have ho : o = copyN t.2.1.toNat t.2.2 out := ho
    subst ho
    exact hK _ _ _ hr k1 hT1
end
end Go.Proofs.Ytodgnegbaigdbaa
