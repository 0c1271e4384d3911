/- Names: calls of the program's directory. -/
import Derived.Test.YtlgkcbdpaffigaaCd
namespace Go.Proofs.Ytlgkcbdpaffigaa
open Go Go.SX Go.Proofs
set_option maxRecDepth 100000
set_option linter.unusedVariables false
set_option linter.unusedSimpArgs false
/-- What a call leaves behind. -/
def DStep (w : World) (O : Nat → Prop) (b o : Nat) (S : List Ent) (ws : List Chg) (w' : World) (E : Int) (c : Chg) : Prop :=
  DR w' (fun i => O i ∨ w.heap.size ≤ i) b o S (if E = 0 then ws ++ [c] else ws) ∧ Kp O w w' ∧ Nb b o 3 w w'
theorem DStep.no {w : World} {O : Nat → Prop} {b o : Nat} {S : List Ent} {ws : List Chg} {E : Int} {c : Chg} (h : DR w O b o S ws) (hE : E ≠ 0) : DStep w O b o S ws w E c := by
  unfold DStep
  rw [if_neg hE]
  exact ⟨h.mono fun i _ hi => .inl hi, Kp.refl _ _, Nb.refl _ _ _ _⟩
theorem DStep.yes {w w' : World} {O : Nat → Prop} {b o : Nat} {S : List Ent} {ws : List Chg} {c : Chg} (h : DR w' (fun i => O i ∨ w.heap.size ≤ i) b o S (ws ++ [c])) (k : Kp O w w') (nb : Nb b o 3 w w') : DStep w O b o S ws w' 0 c := by
  unfold DStep
  rw [if_pos rfl]
  exact ⟨h, k, nb⟩
theorem look_none {l : List Ent} {s : List UInt8} : (lookE l s).isSome = has Prod.fst l s := look_has.symm
theorem c47 {w : World} {O : Nat → Prop} {b o : Nat} {S : List Ent} {ws : List Chg} (h : DR w O b o S ws) (hl : ws.length ≤ 1000000) (ha : Asc Prod.fst (lastE S ws)) (a : List UInt8) (id : Int) : Rets Try.prog 47 #[ptA b o, .string (ba a), .int .i64 id] w fun v w' =>
    v = .int .i64 (createE (lastE S ws) a) ∧ DStep w O b o S ws w' (createE (lastE S ws) a) ⟨[], a, id⟩ := by
  refine ent [_, _, _] Try.func47 ((vcTry47 _ _ _ w _).mpr ?_)
  unfold VCTry47
  refine bif_b (fun hh => by cases hh) (fun _ => ?_)
  simp only [ptr_some, ad3, Nat.add_zero]
  obtain ⟨m, e0, hm⟩ := h.now
  have k0 : Kp none_ w w := Kp.refl _ _
  refine ⟨_, e0, hm.look und76 u9s (z3 _) (ba a) true ?_⟩
  rw [if_pos rfl, strL_ba, look_none]
  refine ⟨_, _, rfl, k0.keeps0, (c87 a w).mono ?_⟩
  rintro v wx ⟨rfl, e⟩
  obtain rfl := e.symm
  refine ⟨_, rfl, k0.keeps0, bif_not (fun hn => ?_) (fun hn => bif_b (fun hh => ?_) (fun hh => ⟨_, e0, hm.len (asc_nk ha) und76 3 ?_⟩))⟩
  · have : createE (lastE S ws) a = 6 := by unfold createE; rw [if_pos hn]
    rw [this]
    exact ⟨_, rfl, rfl, .no h (by decide)⟩
  · have : createE (lastE S ws) a = 16 := by unfold createE; rw [if_neg (by rw [hn]; decide), if_pos hh]
    rw [this]
    exact ⟨_, rfl, rfl, .no h (by decide)⟩
  · refine ⟨_, rfl, k0.keeps0, bif_dec (fun hge => ?_) (fun hge => ?_)⟩
    · have : createE (lastE S ws) a = 14 := by unfold createE; rw [if_neg (by rw [hn]; decide), if_neg (by rw [hh]; decide), if_pos (by omega)]
      rw [this]
      exact ⟨_, rfl, rfl, .no h (by decide)⟩
    · have : createE (lastE S ws) a = 0 := by unfold createE; rw [if_neg (by rw [hn]; decide), if_neg (by rw [hh]; decide), if_neg (by omega)]
      rw [this]
      refine (c88 h hl ha ⟨[], a, id⟩).mono ?_
      rintro v w1 ⟨rfl, r1, k1, n1⟩
      exact ⟨_, rfl, Kp.keeps0 k1, _, rfl, rfl, .yes r1 k1 n1⟩
theorem c43 {w : World} {O : Nat → Prop} {b o : Nat} {S : List Ent} {ws : List Chg} (h : DR w O b o S ws) (hl : ws.length ≤ 1000000) (ha : Asc Prod.fst (lastE S ws)) (a t : List UInt8) : Rets Try.prog 43 #[ptA b o, .string (ba a), .string (ba t)] w fun v w' =>
    v = .int .i64 (renameE (lastE S ws) a t) ∧ DStep w O b o S ws w' (renameE (lastE S ws) a t) ⟨a, t, 0⟩ := by
  refine ent [_, _, _] Try.func43 ((vcTry43 _ _ _ w _).mpr ?_)
  unfold VCTry43
  refine bif_b (fun hh => by cases hh) (fun _ => ?_)
  simp only [ptr_some, ad3, Nat.add_zero]
  obtain ⟨m, e0, hm⟩ := h.now
  have k0 : Kp none_ w w := Kp.refl _ _
  refine ⟨_, e0, hm.look und76 u9s (z3 _) (ba a) true ?_⟩
  rw [if_pos rfl, strL_ba, look_none]
  refine ⟨_, _, rfl, k0.keeps0, (c87 t w).mono ?_⟩
  rintro v wx ⟨rfl, e⟩
  obtain rfl := e.symm
  refine ⟨_, rfl, k0.keeps0, bif_not (fun hn => ?_) (fun hn => bif_not (fun hh => ?_) (fun hh => ?_))⟩
  · have : renameE (lastE S ws) a t = 6 := by unfold renameE; rw [if_pos hn]
    rw [this]
    exact ⟨_, rfl, rfl, .no h (by decide)⟩
  · have : renameE (lastE S ws) a t = 7 := by unfold renameE; rw [if_neg (by rw [hn]; decide), if_pos hh]
    rw [this]
    exact ⟨_, rfl, rfl, .no h (by decide)⟩
  · have : renameE (lastE S ws) a t = 0 := by unfold renameE; rw [if_neg (by rw [hn]; decide), if_neg (by rw [hh]; decide)]
    rw [this]
    refine (c88 h hl ha ⟨a, t, 0⟩).mono ?_
    rintro v w1 ⟨rfl, r1, k1, n1⟩
    exact ⟨_, rfl, Kp.keeps0 k1, _, rfl, rfl, .yes r1 k1 n1⟩
theorem c48 {w : World} {O : Nat → Prop} {b o : Nat} {S : List Ent} {ws : List Chg} (h : DR w O b o S ws) (hl : ws.length ≤ 1000000) (ha : Asc Prod.fst (lastE S ws)) (a : List UInt8) : Rets Try.prog 48 #[ptA b o, .string (ba a)] w fun v w' =>
    v = .int .i64 (removeE (lastE S ws) a) ∧ DStep w O b o S ws w' (removeE (lastE S ws) a) ⟨a, [], 0⟩ := by
  refine ent [_, _] Try.func48 ((vcTry48 _ _ w _).mpr ?_)
  unfold VCTry48
  refine bif_b (fun hh => by cases hh) (fun _ => ?_)
  simp only [ptr_some, ad3, Nat.add_zero]
  obtain ⟨m, e0, hm⟩ := h.now
  have k0 : Kp none_ w w := Kp.refl _ _
  refine ⟨_, e0, hm.look und76 u9s (z3 _) (ba a) true ?_⟩
  rw [if_pos rfl, strL_ba, look_none]
  refine ⟨_, _, rfl, k0.keeps0, bif_not (fun hh => ?_) (fun hh => ?_)⟩
  · have : removeE (lastE S ws) a = 7 := by unfold removeE; rw [if_pos hh]
    rw [this]
    exact ⟨_, rfl, rfl, .no h (by decide)⟩
  · have : removeE (lastE S ws) a = 0 := by unfold removeE; rw [if_neg (by rw [hh]; decide)]
    rw [this]
    refine (c88 h hl ha ⟨a, [], 0⟩).mono ?_
    rintro v w1 ⟨rfl, r1, k1, n1⟩
    exact ⟨_, rfl, Kp.keeps0 k1, _, rfl, rfl, .yes r1 k1 n1⟩
theorem c42 {w : World} {O : Nat → Prop} {b o : Nat} {S : List Ent} {ws : List Chg} (h : DR w O b o S ws) (a : List UInt8) : Rets Try.prog 42 #[ptA b o, .string (ba a)] w fun v w' => w' = w ∧ v = .tuple #[.int .i64 ((lookE (lastE S ws) a).getD 0), .bool (has Prod.fst (lastE S ws) a)] := by
  refine ent [_, _] Try.func42 ((vcTry42 _ _ w _).mpr ?_)
  unfold VCTry42
  refine bif_b (fun hh => by cases hh) (fun _ => ?_)
  simp only [ptr_some, ad3, Nat.add_zero]
  obtain ⟨m, e0, hm⟩ := h.now
  refine ⟨_, e0, hm.look und76 u9s (z3 _) (ba a) true ?_⟩
  rw [if_pos rfl, strL_ba, look_none]
  exact ⟨_, _, rfl, (Kp.refl none_ _).keeps0, _, rfl, rfl, rfl⟩
theorem c41 {w : World} {O : Nat → Prop} {b o : Nat} {S : List Ent} {ws : List Chg} (h : DR w O b o S ws) : Rets Try.prog 41 #[ptA b o] w fun v w' => w' = w ∧ v = .int .i64 ws.length := by
  refine ent [_] Try.func41 ((vcTry41 _ w _).mpr ?_)
  unfold VCTry41
  refine bif_b (fun hh => by cases hh) (fun _ => ?_)
  simp only [ptr_some, ad3, Nat.add_zero]
  obtain ⟨q, c, e2, _⟩ := h.wait
  exact ⟨_, _, _, e2, _, rfl, trivial, rfl⟩
/-! ### A directory that isn't there -/
theorem c47n (a : ByteArray) (id : Int) (w : World) : Rets Try.prog 47 #[.pointer none, .string a, .int .i64 id] w fun v w' => w' = w ∧ v = .int .i64 1 := by
  refine ent [_, _, _] Try.func47 ((vcTry47 _ _ _ w _).mpr ?_)
  unfold VCTry47
  exact bif_b (fun _ => ⟨_, rfl, rfl, rfl⟩) (fun hh => by cases hh)
theorem c43n (a t : ByteArray) (w : World) : Rets Try.prog 43 #[.pointer none, .string a, .string t] w fun v w' => w' = w ∧ v = .int .i64 1 := by
  refine ent [_, _, _] Try.func43 ((vcTry43 _ _ _ w _).mpr ?_)
  unfold VCTry43
  exact bif_b (fun _ => ⟨_, rfl, rfl, rfl⟩) (fun hh => by cases hh)
theorem c48n (a : ByteArray) (w : World) : Rets Try.prog 48 #[.pointer none, .string a] w fun v w' => w' = w ∧ v = .int .i64 1 := by
  refine ent [_, _] Try.func48 ((vcTry48 _ _ w _).mpr ?_)
  unfold VCTry48
  exact bif_b (fun _ => ⟨_, rfl, rfl, rfl⟩) (fun hh => by cases hh)
theorem c42n (a : ByteArray) (w : World) : Rets Try.prog 42 #[.pointer none, .string a] w fun v w' => w' = w ∧ v = .tuple #[.int .i64 0, .bool false] := by
  refine ent [_, _] Try.func42 ((vcTry42 _ _ w _).mpr ?_)
  unfold VCTry42
  exact bif_b (fun _ => ⟨_, rfl, rfl, rfl⟩) (fun hh => by cases hh)
theorem c41n (w : World) : Rets Try.prog 41 #[.pointer none] w fun v w' => w' = w ∧ v = .int .i64 0 := by
  refine ent [_] Try.func41 ((vcTry41 _ w _).mpr ?_)
  unfold VCTry41
  exact bif_b (fun _ => ⟨_, rfl, rfl, rfl⟩) (fun hh => by cases hh)
theorem c39n (w : World) : Rets Try.prog 39 #[.pointer none] w fun v w' => w' = w ∧ v = .slice none 0 0 := by
  refine ent [_] Try.func39 ((vcTry39 _ w _).mpr ?_)
  unfold VCTry39
  exact bif_b (fun _ => ⟨_, rfl, rfl, rfl⟩) (fun hh => by cases hh)
theorem c38n (w : World) : Rets Try.prog 38 #[.pointer none] w fun v w' => w' = w ∧ v = .tuple #[] := by
  refine ent [_] Try.func38 ((vcTry38 _ w _).mpr ?_)
  unfold VCTry38
  exact bif_not (fun hh => by cases hh) (fun _ => ⟨_, rfl, rfl, rfl⟩)
theorem c40n (n : Int) (w : World) : Rets Try.prog 40 #[.pointer none, .int .i64 n] w fun v w' => w' = w ∧ v = .tuple #[] := by
  refine ent [_, _] Try.func40 ((vcTry40 _ _ w _).mpr ?_)
  unfold VCTry40
  exact bif_b (fun _ => ⟨_, rfl, rfl, rfl⟩) (fun hh => by cases hh)
theorem c46n (n : Int) (w : World) : Rets Try.prog 46 #[.pointer none, .int .i64 n] w fun v w' => v = .bool false ∧ Kp none_ w w' := by
  refine ent [_, _] Try.func46 ((vcTry46 _ _ w _).mpr ?_)
  unfold VCTry46
  exact bif_b (fun _ _ => ⟨_, rfl, rfl, (Kp.refl none_ _).alloc1 _⟩) (fun hh => by cases hh)
end Go.Proofs.Ytlgkcbdpaffigaa
