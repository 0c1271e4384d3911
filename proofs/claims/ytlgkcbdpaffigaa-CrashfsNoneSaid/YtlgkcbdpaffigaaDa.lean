/- Files by names: those that aren't there. -/
import Derived.Test.YtlgkcbdpaffigaaCi
import Derived.Test.YtlgkcbdpaffigaaVpa
import Derived.Test.YtlgkcbdpaffigaaVca
namespace Go.Proofs.Ytlgkcbdpaffigaa
open Go Go.SX Go.Proofs
set_option maxRecDepth 100000
set_option linter.unusedVariables false
set_option linter.unusedSimpArgs false
theorem c76n (w : World) : Rets Try.prog 76 #[.pointer none] w fun v w' => w' = w ∧ v = .int .i64 1 := by
  refine ent [_] Try.func76 ((vcTry76 _ w _).mpr ?_)
  unfold VCTry76
  exact bif_b (fun _ => ⟨_, rfl, rfl, rfl⟩) (fun hh => by cases hh)
theorem c77n (n : Int) (w : World) : Rets Try.prog 77 #[.pointer none, .int .i64 n] w fun v w' => w' = w ∧ v = .pointer none := by
  refine ent [_, _] Try.func77 ((vcTry77 _ _ w _).mpr ?_)
  unfold VCTry77
  exact bif_b (fun _ => ⟨_, rfl, rfl, rfl⟩) (fun hh => by cases hh)
theorem c18n (w : World) : Rets Try.prog 18 #[.pointer none] w fun v w' => w' = w ∧ v = .int .i64 0 := by
  refine ent [_] Try.func18 ((vcTry18 _ w _).mpr ?_)
  unfold VCTry18
  exact bif_b (fun _ => ⟨_, rfl, rfl, rfl⟩) (fun hh => by cases hh)
theorem c17n (a n : Int) (w : World) : Rets Try.prog 17 #[.pointer none, .int .i64 a, .int .i64 n] w fun v w' => w' = w ∧ v = .tuple #[.slice none 0 0, .int .i64 1] := by
  refine ent [_, _, _] Try.func17 ((vcTry17 _ _ _ w _).mpr ?_)
  unfold VCTry17
  exact bif_b (fun _ => ⟨_, rfl, rfl, rfl⟩) (fun hh => by cases hh)
theorem c65n (a n : Int) (w : World) : Rets Try.prog 65 #[.pointer none, .int .i64 a, .int .i64 n] w fun v w' => w' = w ∧ v = .tuple #[.int .i64 0, .bool false] := by
  refine ent [_, _, _] Try.func65 ((vcTry65 _ _ _ w _).mpr ?_)
  unfold VCTry65
  exact bif_b (fun _ => ⟨_, rfl, rfl, rfl⟩) (fun hh => by cases hh)
theorem c27n (q : Option Addr) (n c : Nat) (w : World) : Rets Try.prog 27 #[.pointer none, .slice q n c] w fun v w' => w' = w ∧ v = .tuple #[] := by
  refine ent [_, _] Try.func27 ((vcTry27 _ _ _ _ w _).mpr ?_)
  unfold VCTry27
  exact bif_not (fun hh => by cases hh) (fun _ => ⟨_, rfl, rfl, rfl⟩)
theorem c32n (q : Option Addr) (n c : Nat) (m f : Int) (w : World) : Rets Try.prog 32 #[.pointer none, .agg #[.slice q n c, .int .i64 m, .int .u8 f]] w fun v w' => v = .tuple #[] ∧ Kp none_ w w' := by
  refine ent [_, _] Try.func32 ((vcTry32 _ _ _ _ _ _ w _).mpr ?_)
  unfold VCTry32
  have kx : Kp none_ w (w.alloc (.cells #[.slice q n c, .int .i64 m, .int .u8 f] 53)) := (Kp.refl none_ _).alloc1 _
  first
    | exact bif_b (fun _ _ => ⟨_, rfl, rfl, kx⟩) (fun hh => by cases hh)
    | exact bif_b (fun _ => ⟨_, rfl, rfl, kx⟩) (fun hh => by cases hh)
theorem c28n (s : ByteArray) (w : World) : Rets Try.prog 28 #[.pointer none, .string s] w fun v w' => w' = w ∧ v = .tuple #[.int .i64 0, .int .i64 1] := by
  refine ent [_, _] Try.func28 ((vcTry28 _ _ w _).mpr ?_)
  unfold VCTry28
  refine (c76n w).mono ?_
  rintro v w' ⟨e, rfl⟩
  obtain rfl := e.symm
  exact ⟨_, rfl, (Kp.refl none_ _).keeps0, bif_ne (fun _ => ⟨_, rfl, rfl, rfl⟩) (fun hh => by cases hh)⟩
theorem c33n (s : ByteArray) (w : World) : Rets Try.prog 33 #[.pointer none, .string s] w fun v w' => w' = w ∧ v = .tuple #[.int .i64 0, .int .i64 1] := by
  refine ent [_, _] Try.func33 ((vcTry33 _ _ w _).mpr ?_)
  unfold VCTry33
  exact bif_b (fun _ => ⟨_, rfl, rfl, rfl⟩) (fun hh => by cases hh)
theorem c34n (i a n : Int) (w : World) : Rets Try.prog 34 #[.pointer none, .int .i64 i, .int .i64 a, .int .i64 n] w fun v w' => w' = w ∧ v = .tuple #[.slice none 0 0, .int .i64 1] := by
  refine ent [_, _, _, _] Try.func34 ((vcTry34 _ _ _ _ w _).mpr ?_)
  unfold VCTry34
  refine (c77n i w).mono ?_
  rintro v w' ⟨e, rfl⟩
  obtain rfl := e.symm
  refine ⟨_, rfl, (Kp.refl none_ _).keeps0, (c17n a n w).mono ?_⟩
  rintro v w' ⟨e, rfl⟩
  obtain rfl := e.symm
  exact ⟨_, _, _, _, rfl, (Kp.refl none_ _).keeps0, _, rfl, rfl, rfl⟩
theorem c51n (w : World) : Rets Try.prog 51 #[.pointer none] w fun v w' => w' = w ∧ v = .tuple #[.int .i64 0, .int .i64 0] := by
  refine ent [_] Try.func51 ((vcTry51 _ w _).mpr ?_)
  unfold VCTry51
  exact bif_b (fun _ => ⟨_, rfl, rfl, rfl⟩) (fun hh => by cases hh)
theorem c29n (i a : Int) (q : Option Addr) (n c : Nat) (w : World) : Rets Try.prog 29 #[.pointer none, .int .i64 i, .int .i64 a, .slice q n c] w fun v w' => w' = w ∧ v = .int .i64 1 := by
  refine ent [_, _, _, _] Try.func29 ((vcTry29 _ _ _ _ _ _ w _).mpr ?_)
  unfold VCTry29
  refine (c76n w).mono ?_
  rintro v w' ⟨e, rfl⟩
  obtain rfl := e.symm
  exact ⟨_, rfl, (Kp.refl none_ _).keeps0, bif_ne (fun _ => ⟨_, rfl, rfl, rfl⟩) (fun hh => by cases hh)⟩
theorem c30n (i : Int) (w : World) : Rets Try.prog 30 #[.pointer none, .int .i64 i] w fun v w' => w' = w ∧ v = .int .i64 1 := by
  refine ent [_, _] Try.func30 ((vcTry30 _ _ w _).mpr ?_)
  unfold VCTry30
  refine (c76n w).mono ?_
  rintro v w' ⟨e, rfl⟩
  obtain rfl := e.symm
  exact ⟨_, rfl, (Kp.refl none_ _).keeps0, bif_ne (fun _ => ⟨_, rfl, rfl, rfl⟩) (fun hh => by cases hh)⟩
theorem c31n (w : World) : Rets Try.prog 31 #[.pointer none] w fun v w' => w' = w ∧ v = .int .i64 1 := by
  refine ent [_] Try.func31 ((vcTry31 _ w _).mpr ?_)
  unfold VCTry31
  refine (c76n w).mono ?_
  rintro v w' ⟨e, rfl⟩
  obtain rfl := e.symm
  exact ⟨_, rfl, (Kp.refl none_ _).keeps0, bif_eq (fun hh => by cases hh) (fun _ => ⟨_, rfl, rfl, rfl⟩)⟩
theorem c52n (s t : ByteArray) (w : World) : Rets Try.prog 52 #[.pointer none, .string s, .string t] w fun v w' => w' = w ∧ v = .int .i64 1 := by
  refine ent [_, _, _] Try.func52 ((vcTry52 _ _ _ w _).mpr ?_)
  unfold VCTry52
  refine (c76n w).mono ?_
  rintro v w' ⟨e, rfl⟩
  obtain rfl := e.symm
  exact ⟨_, rfl, (Kp.refl none_ _).keeps0, bif_ne (fun _ => ⟨_, rfl, rfl, rfl⟩) (fun hh => by cases hh)⟩
theorem c53n (s : ByteArray) (w : World) : Rets Try.prog 53 #[.pointer none, .string s] w fun v w' => w' = w ∧ v = .int .i64 1 := by
  refine ent [_, _] Try.func53 ((vcTry53 _ _ w _).mpr ?_)
  unfold VCTry53
  refine (c76n w).mono ?_
  rintro v w' ⟨e, rfl⟩
  obtain rfl := e.symm
  exact ⟨_, rfl, (Kp.refl none_ _).keeps0, bif_ne (fun _ => ⟨_, rfl, rfl, rfl⟩) (fun hh => by cases hh)⟩
theorem c54n (i : Int) (w : World) : Rets Try.prog 54 #[.pointer none, .int .i64 i] w fun v w' => w' = w ∧ v = .int .i64 0 := by
  refine ent [_, _] Try.func54 ((vcTry54 _ _ w _).mpr ?_)
  unfold VCTry54
  refine (c77n i w).mono ?_
  rintro v w' ⟨e, rfl⟩
  obtain rfl := e.symm
  refine ⟨_, rfl, (Kp.refl none_ _).keeps0, (c18n w).mono ?_⟩
  rintro v w' ⟨e, rfl⟩
  obtain rfl := e.symm
  exact ⟨_, rfl, (Kp.refl none_ _).keeps0, _, rfl, rfl, rfl⟩
theorem c55n (w : World) : Rets Try.prog 55 #[.pointer none] w fun v w' => w' = w ∧ v = .int .i64 0 := by
  refine ent [_] Try.func55 ((vcTry55 _ w _).mpr ?_)
  unfold VCTry55
  exact bif_b (fun _ => ⟨_, rfl, rfl, rfl⟩) (fun hh => by cases hh)
theorem c56n (w : World) : Rets Try.prog 56 #[.pointer none] w fun v w' => w' = w ∧ v = .slice none 0 0 := by
  refine ent [_] Try.func56 ((vcTry56 _ w _).mpr ?_)
  unfold VCTry56
  exact bif_b (fun _ => ⟨_, rfl, rfl, rfl⟩) (fun hh => by cases hh)
theorem c57n (w : World) : Rets Try.prog 57 #[.pointer none] w fun v w' => w' = w ∧ v = .int .i64 0 := by
  refine ent [_] Try.func57 ((vcTry57 _ w _).mpr ?_)
  unfold VCTry57
  exact bif_b (fun _ => ⟨_, rfl, rfl, rfl⟩) (fun hh => by cases hh)
end Go.Proofs.Ytlgkcbdpaffigaa
