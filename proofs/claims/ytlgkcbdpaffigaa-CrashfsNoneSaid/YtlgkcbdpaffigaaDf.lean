/- Law06 'CrashfsNone', walked to its end. -/
import Derived.Test.YtlgkcbdpaffigaaDe
namespace Go.Proofs.Ytlgkcbdpaffigaa
open Go Go.SX Go.Proofs
set_option maxRecDepth 100000
set_option linter.unusedVariables false
set_option linter.unusedSimpArgs false
structure Askx where
  id : Int
  at_ : Int
  n : Int
  nm : List UInt8
def askC (x : Askx) : List Value := [.int .i64 x.id, .int .i64 x.at_, .int .i64 x.n, .string (ba x.nm)]
theorem keeps1s {S : Nat → Prop} {w w' : World} {a : Nat} (k : Kp S w w') (ha : a < w.heap.size) (hs : ¬ S a) : Keeps w w' [a] := k.keeps fun i hi => by
  rw [List.mem_singleton] at hi
  subst hi
  exact ⟨ha, hs⟩
theorem c11 (w : World) (cap : Int) (x : Askx) : Rets Try.prog 11 #[.int .i64 cap, .agg (askC x).toArray] w fun v w' => v = .bool true ∧ Kp none_ w w' := by
  obtain ⟨id, at_, n, nm⟩ := x
  refine ent [_, _] Try.func11 ((vcTry11 _ _ _ _ _ w _).mpr ?_)
  unfold VCTry11
  have kx : Kp none_ w (w.alloc (.cells #[.int .i64 id, .int .i64 at_, .int .i64 n, .string (ba nm)] 108)) := (Kp.refl none_ _).alloc1 _
  have zx : (w.alloc (.cells #[.int .i64 id, .int .i64 at_, .int .i64 n, .string (ba nm)] 108)).heap.size = w.heap.size + 1 := alloc_size _ _
  intro _
  generalize w.alloc (.cells #[.int .i64 id, .int .i64 at_, .int .i64 n, .string (ba nm)] 108) = X at *
  have sX : w.heap.size < X.heap.size := by omega
  have self : ∀ {W : World}, X.heap.size ≤ W.heap.size → Keeps W W [w.heap.size] := fun h => keeps1s (Kp.refl none_ _) (by omega) (fun hh => hh)
  refine (c27n none 0 0 X).mono ?_
  rintro v w1 ⟨e, rfl⟩
  obtain rfl := e.symm
  refine ⟨rfl, self (Nat.le_refl _), fun _ => (c32n none 0 0 0 0 X).mono ?_⟩
  rintro v w1 ⟨rfl, k1⟩
  have z1 := k1.size
  refine ⟨rfl, keeps1s k1 sX (fun hh => hh), fun _ => (c28n _ w1).mono ?_⟩
  rintro v w2 ⟨e, rfl⟩
  obtain rfl := e.symm
  refine ⟨_, _, rfl, self z1, fun _ => (c33n _ w1).mono ?_⟩
  rintro v w2 ⟨e, rfl⟩
  obtain rfl := e.symm
  refine ⟨_, _, rfl, self z1, fun _ => (c34n _ _ _ w1).mono ?_⟩
  rintro v w2 ⟨e, rfl⟩
  obtain rfl := e.symm
  refine ⟨_, _, _, _, rfl, self z1, fun _ => (c51n w1).mono ?_⟩
  rintro v w2 ⟨e, rfl⟩
  obtain rfl := e.symm
  refine ⟨_, _, rfl, self z1, bif_ne (fun hh => absurd rfl hh) fun _ => bif_ne (fun hh => absurd rfl hh) fun _ => bif_ne (fun hh => absurd rfl hh) fun _ _ => (c29n _ _ none 0 0 w1).mono ?_⟩
  rintro v w2 ⟨e, rfl⟩
  obtain rfl := e.symm
  refine ⟨_, rfl, self z1, bif_ne (fun hh => absurd rfl hh) fun _ _ => (c30n _ w1).mono ?_⟩
  rintro v w2 ⟨e, rfl⟩
  obtain rfl := e.symm
  refine ⟨_, rfl, self z1, bif_ne (fun hh => absurd rfl hh) fun _ _ => (c31n w1).mono ?_⟩
  rintro v w2 ⟨e, rfl⟩
  obtain rfl := e.symm
  refine ⟨_, rfl, self z1, bif_ne (fun hh => absurd rfl hh) fun _ _ => (c52n _ _ w1).mono ?_⟩
  rintro v w2 ⟨e, rfl⟩
  obtain rfl := e.symm
  refine ⟨_, rfl, self z1, bif_ne (fun hh => absurd rfl hh) fun _ _ => (c53n _ w1).mono ?_⟩
  rintro v w2 ⟨e, rfl⟩
  obtain rfl := e.symm
  refine ⟨_, rfl, self z1, bif_ne (fun hh => absurd rfl hh) fun _ _ => (c54n _ w1).mono ?_⟩
  rintro v w2 ⟨e, rfl⟩
  obtain rfl := e.symm
  refine ⟨_, rfl, self z1, bif_ne (fun hh => absurd rfl hh) fun _ _ => (c55n w1).mono ?_⟩
  rintro v w2 ⟨e, rfl⟩
  obtain rfl := e.symm
  refine ⟨_, rfl, self z1, bif_ne (fun hh => absurd rfl hh) fun _ _ => (c56n w1).mono ?_⟩
  rintro v w2 ⟨e, rfl⟩
  obtain rfl := e.symm
  refine ⟨_, _, _, rfl, self z1, bif_ne (fun hh => absurd rfl hh) fun _ => bif_ne (fun hh => absurd rfl hh) fun _ => bif_ne (fun hh => absurd rfl hh) fun _ _ => (c57n w1).mono ?_⟩
  rintro v w2 ⟨e, rfl⟩
  obtain rfl := e.symm
  refine ⟨_, rfl, self z1, bif_ne (fun hh => absurd rfl hh) fun _ _ => (c24 cap w1).mono ?_⟩
  -- one that has no disks
  rintro v w2 ⟨rfl, h2, k2⟩
  have z2 := k2.size
  refine ⟨_, rfl, keeps1s k2 (by omega) (fun hh => hh), fun _ => (c33 h2 nm).mono ?_⟩
  rintro v w3 ⟨e, rfl⟩
  obtain rfl := e.symm
  refine ⟨_, _, rfl, self (by omega), fun _ => (c34o h2 _ _ _).mono ?_⟩
  rintro v w3 ⟨e, rfl⟩
  obtain rfl := e.symm
  have nX : ¬ one_ w1.heap.size w.heap.size := fun hh => by have hh : w.heap.size = w1.heap.size := hh; omega
  refine ⟨_, _, _, _, rfl, self (by omega), bif_eq (fun _ => bif_eq (fun _ _ => (c29o h2 (by omega) (by omega) (by simp) (by simp) _ _ none 0 0).mono ?_) (fun hh => absurd rfl hh)) (fun hh => absurd rfl hh)⟩
  rintro v w3 ⟨rfl, h3, k3⟩
  have z3 := k3.size
  refine ⟨_, rfl, keeps1s k3 (by omega) nX, bif_eq (fun _ _ => (c30o h3 (by omega) (by omega) (by simp) (by simp) _).mono ?_) (fun hh => absurd rfl hh)⟩
  rintro v w4 ⟨rfl, h4, k4⟩
  have z4 := k4.size
  refine ⟨_, rfl, keeps1s k4 (by omega) nX, bif_eq (fun _ _ => (c54o h4 _).mono ?_) (fun hh => absurd rfl hh)⟩
  rintro v w5 ⟨e, rfl⟩
  obtain rfl := e.symm
  refine ⟨_, rfl, self (by omega), bif_eq (fun _ _ => (c55o h4).mono ?_) (fun hh => absurd rfl hh)⟩
  rintro v w5 ⟨e, rfl⟩
  obtain rfl := e.symm
  refine ⟨_, rfl, self (by omega), bif_eq (fun _ _ => (c23 w4).mono ?_) (fun hh => absurd rfl hh)⟩
  rintro v w6 ⟨rfl, k6⟩
  have K : Kp (fun i => w1.heap.size ≤ i) w w4 := (((kx.trans k1).trans k2).wide.trans (k3.mono fun i _ hi => by have hi : i = w1.heap.size := hi; omega)).trans (k4.mono fun i _ hi => by have hi : i = w1.heap.size := hi; omega)
  exact ⟨_, rfl, keeps1s k6 (by omega) (fun hh => hh), fun _ => ⟨_, rfl, rfl, (K.mono fun i hi hh => by omega).trans k6⟩⟩
end Go.Proofs.Ytlgkcbdpaffigaa
