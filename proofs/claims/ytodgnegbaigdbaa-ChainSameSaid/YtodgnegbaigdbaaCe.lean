import Derived.Test.YtodgnegbaigdbaaCd
import Derived.Lib.SlBytesConst
namespace Go.Proofs.Ytodgnegbaigdbaa
open Go Go.SX Go.Proofs
set_option maxRecDepth 100000
set_option linter.unusedVariables false

def chain0 (v : Value) : List Value := v :: (List.replicate 4096 (.int .i64 0) ++ [.slice none 0 0])
theorem b67 (q : Option Addr) (n c : Nat) : buildC Try.prog 67 [(0, .slice q n c)] = some (chain0 (.slice q n c)) := by kernel_rfl
theorem z67 : hasZero Try.prog 67 = true := by kernel_rfl
theorem c19 {w : World} {q : Option Addr} {n cp : Nat} {b : Int → Int} (hb : Ints w .u8 q n b) (hr : ∀ i : Int, 0 ≤ i → i < n → 0 ≤ b i ∧ b i < 256) (hcp : n ≤ cp) (hn : n ≤ 2147483647) :
    Rets Try.prog 19 #[.slice q n cp] w fun v w' => v = .pointer (some ⟨w.heap.size, 0, none⟩) ∧ Kp none_ w w' ∧ Chn w' (fresh w) w.heap.size q n b 0 := by
  refine ent [_] Try.func19 ((vcTry19 _ _ _ w _).mpr ?_)
  unfold VCTry19
  refine ⟨_, _, buildC_sound z67 (b67 q n cp) w, _, rfl, (Kp.refl none_ _).keeps0, ?_⟩
  have k := (Kp.refl none_ w).alloc (chain0 (.slice q n cp)).toArray 67
  refine ⟨_, rfl, rfl, k, ?_⟩
  have cell : ∀ j v, (chain0 (.slice q n cp))[j]? = some v → (w.alloc (.cells (chain0 (.slice q n cp)).toArray 67)).cell? ⟨w.heap.size, j, none⟩ = some v := fun j v h => cell_alloc_new (by simpa using h)
  refine ⟨⟨cp, hcp, cell 0 _ rfl⟩, hb.kp0 k, hr, fun h hh => ?_, ⟨.slice none 0 0, ?_, OwnRow.nil _ _ _ _⟩, fun o => ?_, Nat.le_refl _, fun h0 a ha hf => ?_, .inl rfl, hn⟩
  · refine cell (1 + h) _ ?_
    rw [chain0, Nat.add_comm, List.getElem?_cons_succ, List.getElem?_append_left (by simp; omega)]
    rw [List.getElem?_replicate, if_pos hh]
    rfl
  · refine cell 4097 _ ?_
    rw [chain0, List.getElem?_cons_succ, List.getElem?_append_right (by simp)]
    simp
  · simp only [World.frozen?, alloc_get]
    simp
  · obtain ⟨a', e, hcl⟩ := hb 0 (by omega) (by omega)
    rw [ha] at e; cases e
    have := cell_lt hcl
    rw [add_block] at this
    unfold fresh at hf; omega

/-- "abcabc". -/
def abc : Int → Int := fun i => if i = 0 ∨ i = 3 then 97 else if i = 1 ∨ i = 4 then 98 else 99
theorem find_abc : findF abc 6 3 1 = (3, 3) := by decide +kernel
theorem prev_abc : prevAt abc 6 3 = 1 := by decide +kernel
def abcL : Array Value := #[.int .u8 97, .int .u8 98, .int .u8 99, .int .u8 97, .int .u8 98, .int .u8 99]
theorem abc_ints (w : World) (fr : Nat × Nat) : Ints (w.alloc (.cells abcL 5 fr)) .u8 (some ⟨w.heap.size, 0, none⟩) 6 abc := by
  intro i h0 h1
  refine ⟨_, rfl, ?_⟩
  have hh : (w.alloc (.cells abcL 5 fr)).heap[w.heap.size]? = some (.cells abcL 5 fr) := by rw [alloc_get, if_pos rfl]
  rw [ad_add]
  simp only [World.cell?, hh, Nat.zero_add]
  have : i = 0 ∨ i = 1 ∨ i = 2 ∨ i = 3 ∨ i = 4 ∨ i = 5 := by omega
  rcases this with rfl | rfl | rfl | rfl | rfl | rfl <;> rfl
theorem abc_range : ∀ i : Int, 0 ≤ i → i < (6 : Nat) → 0 ≤ abc i ∧ abc i < 256 := by
  intro i _ _
  unfold abc
  split
  · omega
  · split <;> omega
theorem conv_abc (w : World) : (convert 25 25 (.slice (some ⟨w.heap.size, 0, none⟩) 6 6)).run Try.prog (w.alloc (.cells abcL 5)) = .ok (.slice (some ⟨w.heap.size, 0, none⟩) 6 6) (w.alloc (.cells abcL 5 (6, 7))) :=
  Go.Lib.run_convert_bytes_const w 25 5 abcL 6 6 Try.underlying25 Try.underlying5
theorem c18 (w : World) : Rets Try.prog 18 #[] w fun v w' => v = .bool true ∧ Kp none_ w w' := by
  refine ent [] Try.func18 ((vcTry18 w _).mpr ?_)
  unfold VCTry18
  refine ⟨_, _, conv_abc w, _, _, _, rfl, ⟨by rw [alloc_size, alloc_size]; exact Nat.le_refl _, fun b hb => by cases hb⟩, ?_⟩
  have k1 : Kp none_ w (w.alloc (.cells abcL 5 (6, 7))) := (Kp.refl none_ w).alloc1 _
  refine (c19 (cp := 6) (abc_ints w (6, 7)) abc_range (by omega) (by omega)).mono ?_
  rintro v w2 ⟨rfl, k2, h2⟩
  refine ⟨_, rfl, k2.keeps0, ?_⟩
  have k12 := k1.trans k2
  have own : ∀ i, i < w.heap.size → fresh (w.alloc (.cells abcL 5 (6, 7))) i → none_ i := fun i hi hf => by unfold fresh at hf; rw [alloc_size] at hf; omega
  refine (c37 h2 3).mono ?_
  rintro v w3 ⟨rfl, k3, m3, h3⟩
  refine ⟨_, _, rfl, k3.keeps0, ?_⟩
  have k13 := k12.then k3 own
  refine (c20 h3 3 1 (by omega)).mono ?_
  rintro v w4 ⟨rfl, k4, m4, h4⟩
  refine ⟨_, _, rfl, k4.keeps0, ?_⟩
  have hs := k1.size
  have hs2 := k2.size
  have k14 := k13.then k4 (fun i hi hf => by rcases hf with hf | hf; exact own i hi hf; unfold fresh at hf; omega)
  rw [find_abc, prev_abc]
  exact ⟨_, rfl, rfl, k14⟩

/-! ### The laws -/
theorem c3 (a b c : Int) (w : World) (ha : 0 ≤ a ∧ a < 256) (hb : 0 ≤ b ∧ b < 256) (hc : 0 ≤ c ∧ c < 256) : Rets Try.prog 3 #[.int .u8 a, .int .u8 b, .int .u8 c] w fun v w' => v = .bool true ∧ Kp none_ w w' := by
  refine ent [_, _, _] Try.func3 ((vcTry3 a b c w _).mpr ?_)
  unfold VCTry3
  refine (c16 a b c w ha hb hc).mono ?_
  rintro v w1 ⟨rfl, e⟩
  obtain rfl := e.symm
  refine ⟨_, rfl, (Kp.refl none_ _).keeps0, (c17 a b c w ha hb hc).mono ?_⟩
  rintro v w1 ⟨rfl, e⟩
  obtain rfl := e.symm
  refine ⟨_, rfl, (Kp.refl none_ _).keeps0, ?_⟩
  refine bif_eq (fun _ => (c18 w).mono ?_) (fun h => absurd rfl h)
  rintro v w2 ⟨rfl, k⟩
  exact ⟨_, rfl, k.keeps0, _, rfl, rfl, k⟩
theorem fresh_none {w w' : World} (h : w.heap.size ≤ w'.heap.size) : ∀ i, i < w.heap.size → fresh w' i → none_ i := fun i hi hf => by unfold fresh at hf; omega
theorem c4 {w : World} {q1 q2 : Option Addr} {n1 n2 k1 k2 : Nat} {b at_ : Int → Int} (hb : Ints w .u8 q1 n1 b) (hr : ∀ i : Int, 0 ≤ i → i < n1 → 0 ≤ b i ∧ b i < 256) (hcp : n1 ≤ k1) (ha : Ints w .i64 q2 n2 at_)
    (depth : Int) (hd : -9223372036854775808 ≤ depth ∧ depth < 9223372036854775808) :
    Rets Try.prog 4 #[.slice q1 n1 k1, .slice q2 n2 k2, .int .i64 depth] w fun v w' => v = .bool true ∧ Kp none_ w w' := by
  refine ent [_, _, _] Try.func4 ((vcTry4 _ _ _ _ _ _ _ w _).mpr ?_)
  unfold VCTry4
  have live : ∀ w1, Kp none_ w w1 → Rets Try.prog 18 #[] w1 fun v w2 => ∃ t : Bool, v = .bool t ∧ Keeps w1 w2 [] ∧ ∃ v', Ending.returned (.bool t) = .returned v' ∧ v' = .bool true ∧ Kp none_ w w2 := fun w1 k => (c18 w1).mono fun v w2 ⟨e, k2⟩ => ⟨true, e, k2.keeps0, _, rfl, rfl, k.trans k2⟩
  refine bif_dec (fun _ => live w (Kp.refl _ _)) (fun g1 => ?_)
  refine bif_dec (fun _ => live w (Kp.refl _ _)) (fun g2 => ?_)
  have hn : n1 ≤ 2147483647 := by omega
  refine (c19 hb hr hcp hn).mono ?_
  rintro v w7 ⟨rfl, k7, h7⟩
  refine ⟨_, rfl, k7.keeps0, fun i w' => (0 ≤ i ∧ i ≤ n2) ∧ Kp none_ w w' ∧ ∃ m, Chn w' (fresh w) w.heap.size q1 n1 b m, fun i _ => (n2 - i).toNat, ⟨by omega, k7, 0, h7⟩, ?_⟩
  rintro i w' ⟨hi, k, m, hc⟩
  refine bif_dec (fun h => ?_) (fun h => live w' k)
  refine (ha.kp0 k).get (by omega) (by omega) fun a1 _ => (c20 hc (at_ i) depth hd).mono ?_
  rintro v w2 ⟨rfl, k2, m2, hc2⟩
  have kw : Kp none_ w w2 := k.then k2 (fresh_none (Nat.le_refl _))
  refine ⟨_, _, rfl, k2.keeps0, (ha.kp0 kw).get (by omega) (by omega) fun a2 _ => (c21 (hb.kp0 kw) hn (at_ i) depth hd).mono ?_⟩
  rintro v w3 ⟨rfl, k3⟩
  refine ⟨_, _, rfl, k3.keeps0, bif_ne (fun h => absurd rfl h) (fun _ => bif_ne (fun h => absurd rfl h) (fun _ => wr64 (by omega) ⟨⟨by omega, kw.trans k3, m2, ?_⟩, by first | omega | (dsimp only; omega)⟩))⟩
  have hc3 : Chn w2 (fresh w) w.heap.size q1 n1 b m2 := by
    refine hc2.mono (fun j _ hj => hj.elim id fun hf => Nat.le_trans k.size hf) hc.qown
  exact hc3.kp k3 (fun _ _ _ => id) (fun _ _ _ => id)
end Go.Proofs.Ytodgnegbaigdbaa
