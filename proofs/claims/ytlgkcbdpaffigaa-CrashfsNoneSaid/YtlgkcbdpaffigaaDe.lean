/- Law06 'CrashfsNone', walked: files by names that aren't there, or have no disks. -/
import Derived.Test.YtlgkcbdpaffigaaDd
import Derived.Test.YtlgkcbdpaffigaaVpb
namespace Go.Proofs.Ytlgkcbdpaffigaa
open Go Go.SX Go.Proofs
set_option maxRecDepth 100000
set_option linter.unusedVariables false
set_option linter.unusedSimpArgs false
variable {w : World} {O : Nat → Prop} {b : Nat} {S : List Ent} {ws : List Chg} {cap k r : Int} {rl : List Int}
theorem c77o (h : FSM w O b [] S ws cap k r rl) (i : Int) : Rets Try.prog 77 #[ptA b 0, .int .i64 i] w fun v w' => w' = w ∧ v = .pointer none := by
  refine (c77 h i).mono ?_
  rintro v w' ⟨rfl, rfl⟩
  refine ⟨rfl, ?_⟩
  split <;> rfl
theorem c34o (h : FSM w O b [] S ws cap k r rl) (i a n : Int) : Rets Try.prog 34 #[ptA b 0, .int .i64 i, .int .i64 a, .int .i64 n] w fun v w' => w' = w ∧ v = .tuple #[.slice none 0 0, .int .i64 1] := by
  refine ent [_, _, _, _] Try.func34 ((vcTry34 _ _ _ _ w _).mpr ?_)
  unfold VCTry34
  refine (c77o h i).mono ?_
  rintro v w' ⟨e, rfl⟩
  obtain rfl := e.symm
  refine ⟨_, rfl, (Kp.refl none_ _).keeps0, (c17n a n w).mono ?_⟩
  rintro v w' ⟨e, rfl⟩
  obtain rfl := e.symm
  exact ⟨_, _, _, _, rfl, (Kp.refl none_ _).keeps0, _, rfl, rfl, rfl⟩
theorem c54o (h : FSM w O b [] S ws cap k r rl) (i : Int) : Rets Try.prog 54 #[ptA b 0, .int .i64 i] w fun v w' => w' = w ∧ v = .int .i64 0 := by
  refine ent [_, _] Try.func54 ((vcTry54 _ _ w _).mpr ?_)
  unfold VCTry54
  refine (c77o h i).mono ?_
  rintro v w' ⟨e, rfl⟩
  obtain rfl := e.symm
  refine ⟨_, rfl, (Kp.refl none_ _).keeps0, (c18n w).mono ?_⟩
  rintro v w' ⟨e, rfl⟩
  obtain rfl := e.symm
  exact ⟨_, rfl, (Kp.refl none_ _).keeps0, _, rfl, rfl, rfl⟩
theorem c55o (h : FSM w O b [] S ws cap k r rl) : Rets Try.prog 55 #[ptA b 0] w fun v w' => w' = w ∧ v = .int .i64 0 := by
  refine ent [_] Try.func55 ((vcTry55 _ w _).mpr ?_)
  unfold VCTry55
  refine bif_b (fun hh => by cases hh) (fun _ => ?_)
  obtain ⟨q, c, e0, r0⟩ := h.disks
  simp only [ptr_some, ad3, Nat.zero_add, Nat.add_zero]
  refine ⟨_, _, _, e0, fun i n w' => w' = w ∧ n = 0 ∧ 0 ≤ i, fun _ _ _ => 0, ⟨rfl, rfl, by omega⟩, ?_⟩
  rintro i n w' ⟨rfl, rfl, hi⟩
  exact bif_dec (fun hh => absurd hh (by simp; omega)) (fun _ => ⟨_, rfl, rfl, rfl⟩)
/-- A write to what isn't there, or one that is refused. -/
theorem c29o (h : FSM w O b [] S ws cap k r rl) (hk : 0 ≤ k ∧ k ≤ 1000000) (hr : 0 ≤ r ∧ r ≤ 1000000) (hl : rl.length ≤ 1000000) (hn : k + 1 ∉ rl) (i a : Int) (q : Option Addr) (n c : Nat) : Rets Try.prog 29 #[ptA b 0, .int .i64 i, .int .i64 a, .slice q n c] w fun v w' => v = .int .i64 1 ∧ FSM w' O b [] S ws cap (k + 1) r rl ∧ Kp (one_ b) w w' := by
  refine ent [_, _, _, _] Try.func29 ((vcTry29 _ _ _ _ _ _ w _).mpr ?_)
  unfold VCTry29
  refine (c76 h hk hr hl).mono ?_
  rintro v w1 ⟨rfl, h1, k1⟩
  have e1 : refE rl k = 0 := by unfold refE; rw [if_neg hn]
  have e2 : refN rl k r = r := by unfold refN; rw [if_neg hn]
  rw [e1]
  rw [e2] at h1
  refine ⟨_, rfl, k1.keeps0, bif_ne (fun hh => absurd rfl hh) fun _ => (c77o h1 i).mono ?_⟩
  rintro v w' ⟨e, rfl⟩
  obtain rfl := e.symm
  refine ⟨_, rfl, (Kp.refl none_ _).keeps0, (c65n a n w1).mono ?_⟩
  rintro v w' ⟨e, rfl⟩
  obtain rfl := e.symm
  exact ⟨_, _, rfl, (Kp.refl none_ _).keeps0, bif_not (fun _ => ⟨_, rfl, rfl, h1, k1⟩) (fun hh => by cases hh)⟩
theorem c29r {Ds : List Nat} (h : FSM w O b Ds S ws cap k r rl) (hk : 0 ≤ k ∧ k ≤ 1000000) (hr : 0 ≤ r ∧ r ≤ 1000000) (hl : rl.length ≤ 1000000) (hn : k + 1 ∈ rl) (i a : Int) (q : Option Addr) (n c : Nat) : Rets Try.prog 29 #[ptA b 0, .int .i64 i, .int .i64 a, .slice q n c] w fun v w' => v = .int .i64 10 ∧ FSM w' O b Ds S ws cap (k + 1) (r + 1) rl ∧ Kp (one_ b) w w' := by
  refine ent [_, _, _, _] Try.func29 ((vcTry29 _ _ _ _ _ _ w _).mpr ?_)
  unfold VCTry29
  refine (c76 h hk hr hl).mono ?_
  rintro v w1 ⟨rfl, h1, k1⟩
  have e1 : refE rl k = 10 := by unfold refE; rw [if_pos hn]
  have e2 : refN rl k r = r + 1 := by unfold refN; rw [if_pos hn]
  rw [e1]
  rw [e2] at h1
  exact ⟨_, rfl, k1.keeps0, bif_ne (fun _ => ⟨_, rfl, rfl, h1, k1⟩) (fun hh => by cases hh)⟩
theorem c30o (h : FSM w O b [] S ws cap k r rl) (hk : 0 ≤ k ∧ k ≤ 1000000) (hr : 0 ≤ r ∧ r ≤ 1000000) (hl : rl.length ≤ 1000000) (hn : k + 1 ∉ rl) (i : Int) : Rets Try.prog 30 #[ptA b 0, .int .i64 i] w fun v w' => v = .int .i64 1 ∧ FSM w' O b [] S ws cap (k + 1) r rl ∧ Kp (one_ b) w w' := by
  refine ent [_, _] Try.func30 ((vcTry30 _ _ w _).mpr ?_)
  unfold VCTry30
  refine (c76 h hk hr hl).mono ?_
  rintro v w1 ⟨rfl, h1, k1⟩
  have e1 : refE rl k = 0 := by unfold refE; rw [if_neg hn]
  have e2 : refN rl k r = r := by unfold refN; rw [if_neg hn]
  rw [e1]
  rw [e2] at h1
  refine ⟨_, rfl, k1.keeps0, bif_ne (fun hh => absurd rfl hh) fun _ => (c77o h1 i).mono ?_⟩
  rintro v w' ⟨e, rfl⟩
  obtain rfl := e.symm
  exact ⟨_, rfl, (Kp.refl none_ _).keeps0, bif_b (fun _ => ⟨_, rfl, rfl, h1, k1⟩) (fun hh => by cases hh)⟩
/-- The document's example. -/
theorem c23 (w : World) : Rets Try.prog 23 #[] w fun v w' => v = .bool true ∧ Kp none_ w w' := by
  refine ent [] Try.func23 ((vcTry23 w _).mpr ?_)
  unfold VCTry23
  refine (c24 9 w).mono ?_
  rintro v w1 ⟨rfl, h1, k1⟩
  have z1 := k1.size
  refine ⟨_, rfl, k1.keeps0, ?_⟩
  have ka : Kp none_ w1 (w1.alloc (.cells #[.int .i64 2] 3)) := (Kp.refl none_ _).alloc1 _
  have za : (w1.alloc (.cells #[.int .i64 2] 3)).heap.size = w1.heap.size + 1 := alloc_size _ _
  have Ba : Big (w1.alloc (.cells #[.int .i64 2] 3)) w1.heap.size 3 [.int .i64 2] := Big.new _ _ 3
  generalize w1.alloc (.cells #[.int .i64 2] 3) = wa at *
  have ra : RowsAt wa 1 intC (some ⟨w1.heap.size, 0, none⟩) [2] := fun i hi => ⟨_, rfl, fun j u hu => by
    have hi0 : i = 0 := by simpa using hi
    subst hi0
    rw [ad_add, ad_add, Ba.cell]
    match j, hu with
    | 0, hu => exact hu
    | j + 1, hu => simp [intC] at hu⟩
  have h1a := (h1.kp (O' := fun i => w.heap.size ≤ i ∧ i < w1.heap.size) (Kp.refl none_ _) fun i hl hi => ⟨id, hi, hl⟩).kp0 ka
  refine (c27 h1a (fun i hi => by have := hi.2; omega) ra (by simp) (.inr ⟨_, _, rfl⟩)).mono ?_
  rintro v w2 ⟨rfl, h2, k2⟩
  have z2 := k2.size
  refine ⟨rfl, k2.keeps0, ?_⟩
  have h2 := h2.kp (O' := fun i => w.heap.size ≤ i ∧ i < w2.heap.size) (Kp.refl none_ _) fun i hl hi => ⟨id, by rcases hi with hi | hi; exact ⟨hi.1, hl⟩; exact ⟨by omega, hl⟩⟩
  have en : newE [2] 0 [] (lastE [] []) [97] = 0 := by decide
  refine (c28 h2 (fun i hi => hi.2) (by omega) (by omega) (by simp) (by simp [lastE, Asc]) (by simp) [97]).mono ?_
  rintro v w3 ⟨rfl, k3, f3, _⟩
  have z3 := k3.size
  obtain ⟨d, d1, d2, h3, _⟩ := f3 en
  rw [en, if_pos rfl]
  refine ⟨_, _, rfl, k3.keeps0, ?_⟩
  have kb : Kp none_ w3 (w3.alloc (.cells #[.int .u8 1] 5)) := (Kp.refl none_ _).alloc1 _
  have h3b := h3.kp0 kb
  have en2 : refN [2] 0 0 = 0 := by decide
  rw [en2] at h3b
  generalize w3.alloc (.cells #[.int .u8 1] 5) = wb at *
  have zb := kb.size
  refine (c29r h3b (by omega) (by omega) (by simp) (by decide) _ 0 _ 1 1).mono ?_
  rintro v w4 ⟨rfl, h4, k4⟩
  refine ⟨_, rfl, k4.keeps0, (c51 h4).mono ?_⟩
  rintro v w5 ⟨rfl, rfl⟩
  refine ⟨_, _, rfl, Kp.keeps0 (Kp.drew1 (S := none_)), bif_eq (fun _ => bif_eq (fun _ => bif_eq (fun _ => ⟨_, rfl, rfl, ?_⟩) (fun hh => absurd rfl hh)) (fun hh => absurd rfl hh)) (fun hh => absurd rfl hh)⟩
  have K : Kp (fun i => w.heap.size ≤ i) w w4 := ((((k1.wide.trans ka.wide).trans (k2.mono fun i _ hi => hi.1)).trans (k3.mono fun i _ hi => hi.1)).trans kb.wide).trans (k4.mono fun i _ hi => by have hi : i = w.heap.size := hi; omega)
  exact Kp.drew (K.mono fun i hi hh => by omega)
end Go.Proofs.Ytlgkcbdpaffigaa
