import Derived.Test.YtlgkcbdpaffigaaBs
namespace Go.Proofs.Ytlgkcbdpaffigaa
open Go Go.SX Go.Proofs Go.Lib
set_option maxRecDepth 100000
set_option linter.unusedVariables false
set_option linter.unusedSimpArgs false
section
variable {w w' : World} {col col' : Col} {D X M : Nat} {s : St}
/-- Blocks that are no disk's. -/
def Out (w : World) (col : Col) (bs : List Nat) : Prop := ∀ b ∈ bs, b < w.heap.size ∧ col b = 0
theorem Out.keeps {bs : List Nat} (h : Out w col bs) (k : Kp (ownC col) w w') : Keeps w w' bs := k.keeps fun b hb => ⟨(h b hb).1, fun hh => hh (h b hb).2⟩
theorem Out.keeps0 {bs : List Nat} (h : Out w col bs) (k : Kp none_ w w') : Keeps w w' bs := k.keeps fun b hb => ⟨(h b hb).1, id⟩
theorem Out.next {bs : List Nat} (h : Out w col bs) (g : Grow col col' w w') (hs : w.heap.size ≤ w'.heap.size) : Out w' col' bs := fun b hb => ⟨Nat.lt_of_lt_of_le (h b hb).1 hs, (g.1 b (h b hb).1).trans (h b hb).2⟩
/-- Bytes that were read. -/
def Str (w : World) (col : Col) (q : Option Addr) (t : ByteArray) : Prop := BytesAt w q t ∧ ∀ a, q = some a → 0 < t.size → col a.block = 0
theorem Str.next {q : Option Addr} {t : ByteArray} (h : Str w col q t) (k : Kp (ownC col) w w') (g : Grow col col' w w') : Str w' col' q t := by
  refine ⟨fun i hi => ?_, fun a ha h0 => ?_⟩
  · obtain ⟨a, e, hc⟩ := h.1 i hi
    exact ⟨a, e, k.cell hc (by rw [add_block]; exact fun hh => hh (h.2 a e (by omega)))⟩
  · obtain ⟨a', e, hc⟩ := h.1 0 h0
    rw [ha] at e
    cases e
    have := cell_lt hc
    rw [add_block] at this
    rw [g.1 _ this]
    exact h.2 a ha h0
theorem Str.kp0 {q : Option Addr} {t : ByteArray} (h : Str w col q t) (k : Kp none_ w w') : Str w' col q t := ⟨fun i hi => by
  obtain ⟨a, e, hc⟩ := h.1 i hi
  exact ⟨a, e, k.cell0 hc⟩, h.2⟩
def bytesOf (s : St) : ByteArray := strOf (readF s 0) 0 (512 * s.size)
theorem bytesOf_size (s : St) : (bytesOf s).size = 512 * s.size := strOf_size _ _ _
theorem st16 {E : Nat} (h : Dsk w col D s) {bs : List Nat} (o : Out w col bs) (hE : E ≤ w.heap.size) (hn : ∀ i, col i ≠ 0 → E ≤ i) {K : World → Option Addr → Nat → Nat → Option Addr → Nat → Nat → Option Addr → Nat → Nat → Prop}
    (hK : ∀ w' col', Kp (ownC col) w w' → Grow col col' w w' → Dsk w' col' D (syncSt s) → Out w' col' bs → (∀ i, col' i ≠ 0 → E ≤ i) → ∀ q1 n1 c1 q2 n2 c2 q3 n3 c3, K w' q1 n1 c1 q2 n2 c2 q3 n3 c3) :
    Rets Try.prog 16 #[.pointer (some ⟨D, 0, none⟩)] w fun v w' => v = .tuple #[] ∧ Keeps w w' bs ∧ ∃ q1 n1 c1, w'.cell? ⟨D, 0, none⟩ = some (.slice q1 n1 c1) ∧ w'.frozen? ⟨D, 0, none⟩ = false ∧ ∃ q2 n2 c2, w'.cell? ⟨D, 1, none⟩ = some (.slice q2 n2 c2) ∧ w'.frozen? ⟨D, 1, none⟩ = false ∧ ∃ q3 n3 c3, w'.cell? ⟨D, 2, none⟩ = some (.slice q3 n3 c3) ∧ w'.frozen? ⟨D, 2, none⟩ = false ∧ K w' q1 n1 c1 q2 n2 c2 q3 n3 c3 := by
  refine (c16 h).mono ?_
  rintro v w' ⟨rfl, k, col', g, h'⟩
  exact ⟨rfl, o.keeps k, h'.reads (hK w' col' k g h' (o.next g k.size) (grow_ok g h.lt hE hn))⟩
theorem st19 {E : Nat} (h : Dsk w col D s) {bs : List Nat} (o : Out w col bs) (hE : E ≤ w.heap.size) (hn : ∀ i, col i ≠ 0 → E ≤ i) {q : Option Addr} {n cp : Nat} {kb : Nat → Bool} (hb : Bools w q n kb) (hq : 0 < n → ∀ a, q = some a → col a.block = 0) {fill : Int} (hf : isByte fill) (hl : s.wait.length ≤ 100000) {K : World → Option Addr → Nat → Nat → Option Addr → Nat → Nat → Option Addr → Nat → Nat → Prop}
    (hK : ∀ w' col', Kp (ownC col) w w' → Grow col col' w w' → Dsk w' col' D (crashSt s n kb fill) → Out w' col' bs → (∀ i, col' i ≠ 0 → E ≤ i) → ∀ q1 n1 c1 q2 n2 c2 q3 n3 c3, K w' q1 n1 c1 q2 n2 c2 q3 n3 c3) :
    Rets Try.prog 19 #[.pointer (some ⟨D, 0, none⟩), .slice q n cp, .int .u8 fill] w fun v w' => v = .tuple #[] ∧ Keeps w w' bs ∧ ∃ q1 n1 c1, w'.cell? ⟨D, 0, none⟩ = some (.slice q1 n1 c1) ∧ w'.frozen? ⟨D, 0, none⟩ = false ∧ ∃ q2 n2 c2, w'.cell? ⟨D, 1, none⟩ = some (.slice q2 n2 c2) ∧ w'.frozen? ⟨D, 1, none⟩ = false ∧ ∃ q3 n3 c3, w'.cell? ⟨D, 2, none⟩ = some (.slice q3 n3 c3) ∧ w'.frozen? ⟨D, 2, none⟩ = false ∧ K w' q1 n1 c1 q2 n2 c2 q3 n3 c3 := by
  refine (c19 h hb hq fill hf hl).mono ?_
  rintro v w' ⟨rfl, k, col', g, h'⟩
  exact ⟨rfl, o.keeps k, h'.reads (hK w' col' k g h' (o.next g k.size) (grow_ok g h.lt hE hn))⟩
theorem st18 (h : Dsk w col D s) {bs : List Nat} (o : Out w col bs) {K : Int → World → Option Addr → Nat → Nat → Option Addr → Nat → Nat → Option Addr → Nat → Nat → Prop}
    (hK : ∀ q1 n1 c1 q2 n2 c2 q3 n3 c3, K s.size w q1 n1 c1 q2 n2 c2 q3 n3 c3) :
    Rets Try.prog 18 #[.pointer (some ⟨D, 0, none⟩)] w fun v w' => ∃ i, v = .int .i64 i ∧ Keeps w w' bs ∧ ∃ q1 n1 c1, w'.cell? ⟨D, 0, none⟩ = some (.slice q1 n1 c1) ∧ w'.frozen? ⟨D, 0, none⟩ = false ∧ ∃ q2 n2 c2, w'.cell? ⟨D, 1, none⟩ = some (.slice q2 n2 c2) ∧ w'.frozen? ⟨D, 1, none⟩ = false ∧ ∃ q3 n3 c3, w'.cell? ⟨D, 2, none⟩ = some (.slice q3 n3 c3) ∧ w'.frozen? ⟨D, 2, none⟩ = false ∧ K i w' q1 n1 c1 q2 n2 c2 q3 n3 c3 := by
  refine (c18 h).mono ?_
  rintro v wx ⟨rfl, e⟩
  obtain rfl := e.symm
  exact ⟨_, rfl, o.keeps0 (Kp.refl _ _), h.reads hK⟩
theorem st21 (h : Dsk w col D s) {bs : List Nat} (o : Out w col bs) {K : Int → World → Option Addr → Nat → Nat → Option Addr → Nat → Nat → Option Addr → Nat → Nat → Prop}
    (hK : ∀ q1 n1 c1 q2 n2 c2 q3 n3 c3, K s.wait.length w q1 n1 c1 q2 n2 c2 q3 n3 c3) :
    Rets Try.prog 21 #[.pointer (some ⟨D, 0, none⟩)] w fun v w' => ∃ i, v = .int .i64 i ∧ Keeps w w' bs ∧ ∃ q1 n1 c1, w'.cell? ⟨D, 0, none⟩ = some (.slice q1 n1 c1) ∧ w'.frozen? ⟨D, 0, none⟩ = false ∧ ∃ q2 n2 c2, w'.cell? ⟨D, 1, none⟩ = some (.slice q2 n2 c2) ∧ w'.frozen? ⟨D, 1, none⟩ = false ∧ ∃ q3 n3 c3, w'.cell? ⟨D, 2, none⟩ = some (.slice q3 n3 c3) ∧ w'.frozen? ⟨D, 2, none⟩ = false ∧ K i w' q1 n1 c1 q2 n2 c2 q3 n3 c3 := by
  refine (c21 h).mono ?_
  rintro v wx ⟨rfl, e⟩
  obtain rfl := e.symm
  exact ⟨_, rfl, o.keeps0 (Kp.refl _ _), h.reads hK⟩
theorem st17 (h : Dsk w col D s) {bs : List Nat} (o : Out w col bs) {z : Int} (hz : z = 512 * s.size) {K : Option Addr → Nat → Nat → Int → World → Option Addr → Nat → Nat → Option Addr → Nat → Nat → Option Addr → Nat → Nat → Prop}
    (hK : ∀ w' q c, Kp none_ w w' → Str w' col q (bytesOf s) → Dsk w' col D s → Out w' col bs → ∀ q1 n1 c1 q2 n2 c2 q3 n3 c3, K q (512 * s.size) c 0 w' q1 n1 c1 q2 n2 c2 q3 n3 c3) :
    Rets Try.prog 17 #[.pointer (some ⟨D, 0, none⟩), .int .i64 0, .int .i64 z] w fun v w' => ∃ q n c i, v = .tuple #[.slice q n c, .int .i64 i] ∧ Keeps w w' bs ∧ ∃ q1 n1 c1, w'.cell? ⟨D, 0, none⟩ = some (.slice q1 n1 c1) ∧ w'.frozen? ⟨D, 0, none⟩ = false ∧ ∃ q2 n2 c2, w'.cell? ⟨D, 1, none⟩ = some (.slice q2 n2 c2) ∧ w'.frozen? ⟨D, 1, none⟩ = false ∧ ∃ q3 n3 c3, w'.cell? ⟨D, 2, none⟩ = some (.slice q3 n3 c3) ∧ w'.frozen? ⟨D, 2, none⟩ = false ∧ K q n c i w' q1 n1 c1 q2 n2 c2 q3 n3 c3 := by
  have hs := h.ok.size
  subst hz
  have e1 : (512 : Int) * (s.size : Nat) = ((512 * s.size : Nat) : Int) := by omega
  have hr : rightF 0 ((512 * s.size : Nat) : Int) = true := by unfold rightF; exact decide_eq_true (by omega)
  rw [e1]
  refine (c17 h 0 (512 * s.size) hr (by omega)).mono ?_
  rintro v w1 ⟨q1, c1, rfl, k1, r1⟩
  have hrb := row_bytes r1 (readF_byte h.ok 0)
  refine ⟨_, _, _, _, rfl, o.keeps0 k1, (h.kp0 k1).reads (hK w1 q1 c1 k1 ⟨hrb, fun a ha h0 => ?_⟩ (h.kp0 k1) (fun b hb => ⟨Nat.lt_of_lt_of_le (o b hb).1 k1.size, (o b hb).2⟩))⟩
  rw [bytesOf_size] at h0
  obtain ⟨g, cur, e, _, hg, _⟩ := r1.parts h0
  rw [ha] at e
  cases e
  have hg : w.heap.size ≤ g := hg
  by_cases c : col g = 0
  · exact c
  · have := h.lt g c
    omega
theorem wru8 {z : Int} {K : Int → Prop} (hK : K (z % 256)) : Wr .u8 z K := by
  unfold Wr
  rw [wrap8]
  exact hK
/-- DiskSynced's end: a crash, bytes, a crash, bytes. -/
def Tail4 (D X M : Nat) (k x : Int) (qb : Option Addr) (nb cb : Nat) (qk : Option Addr) (nk ck : Nat) (fill : Int) (q27 : Option Addr) (n28 n29 : Nat) (q30 : Option Addr) (n31 n32 : Nat) (q33 : Option Addr) (n34 n35 : Nat) (q36 : Option Addr) (n37 n38 : Nat) (i197 : Int) (w227 : World) (R : Ending → World → Prop) : Prop :=
  Rets Try.prog (19 : Nat) #[Value.pointer (some { block := D, off := (0 : Nat) }), Value.slice qk nk ck, Value.int IntKind.u8 fill] w227 fun (v381 : Value) (w382 : World) => v381 = Value.tuple #[] ∧ Keeps w227 w382 [X, M] ∧ ∃ (q383 : Option Addr), ∃ (n384 : Nat), ∃ (n385 : Nat), w382.cell? { block := D, off := (0 : Nat) } = some (Value.slice q383 n384 n385) ∧ w382.frozen? { block := D, off := (0 : Nat) } = false ∧ ∃ (q386 : Option Addr), ∃ (n387 : Nat), ∃ (n388 : Nat), w382.cell? { block := D, off := (1 : Nat) } = some (Value.slice q386 n387 n388) ∧ w382.frozen? { block := D, off := (1 : Nat) } = false ∧ ∃ (q389 : Option Addr), ∃ (n390 : Nat), ∃ (n391 : Nat), w382.cell? { block := D, off := (2 : Nat) } = some (Value.slice q389 n390 n391) ∧ w382.frozen? { block := D, off := (2 : Nat) } = false ∧ (Known w382 [(X, [((0 : Nat), Value.int IntKind.i64 k), ((1 : Nat), Value.int IntKind.i64 x), ((2 : Nat), Value.slice qb nb cb), ((3 : Nat), Value.slice qk nk ck), ((4 : Nat), Value.int IntKind.u8 fill)]), (D, [((0 : Nat), Value.slice q383 n384 n385), ((1 : Nat), Value.slice q386 n387 n388), ((2 : Nat), Value.slice q389 n390 n391)]), (M, [((0 : Nat), Value.slice q27 n28 n29), ((1 : Nat), Value.slice q30 n31 n32), ((2 : Nat), Value.slice q33 n34 n35), ((3 : Nat), Value.slice q36 n37 n38)])] → Rets Try.prog (18 : Nat) #[Value.pointer (some { block := D, off := (0 : Nat) })] w382 fun (v392 : Value) (w393 : World) => ∃ (i394 : Int), v392 = Value.int IntKind.i64 i394 ∧ Keeps w382 w393 [X, M] ∧ ∃ (q395 : Option Addr), ∃ (n396 : Nat), ∃ (n397 : Nat), w393.cell? { block := D, off := (0 : Nat) } = some (Value.slice q395 n396 n397) ∧ w393.frozen? { block := D, off := (0 : Nat) } = false ∧ ∃ (q398 : Option Addr), ∃ (n399 : Nat), ∃ (n400 : Nat), w393.cell? { block := D, off := (1 : Nat) } = some (Value.slice q398 n399 n400) ∧ w393.frozen? { block := D, off := (1 : Nat) } = false ∧ ∃ (q401 : Option Addr), ∃ (n402 : Nat), ∃ (n403 : Nat), w393.cell? { block := D, off := (2 : Nat) } = some (Value.slice q401 n402 n403) ∧ w393.frozen? { block := D, off := (2 : Nat) } = false ∧ Wr IntKind.i64 ((512 : Int) * i394) fun (i404 : Int) => Known w393 [(X, [((0 : Nat), Value.int IntKind.i64 k), ((1 : Nat), Value.int IntKind.i64 x), ((2 : Nat), Value.slice qb nb cb), ((3 : Nat), Value.slice qk nk ck), ((4 : Nat), Value.int IntKind.u8 fill)]), (D, [((0 : Nat), Value.slice q395 n396 n397), ((1 : Nat), Value.slice q398 n399 n400), ((2 : Nat), Value.slice q401 n402 n403)]), (M, [((0 : Nat), Value.slice q27 n28 n29), ((1 : Nat), Value.slice q30 n31 n32), ((2 : Nat), Value.slice q33 n34 n35), ((3 : Nat), Value.slice q36 n37 n38)])] → Rets Try.prog (17 : Nat) #[Value.pointer (some { block := D, off := (0 : Nat) }), Value.int IntKind.i64 (0 : Int), Value.int IntKind.i64 i404] w393 fun (v405 : Value) (w406 : World) => ∃ (q407 : Option Addr), ∃ (n408 : Nat), ∃ (n409 : Nat), ∃ (i410 : Int), v405 = Value.tuple #[Value.slice q407 n408 n409, Value.int IntKind.i64 i410] ∧ Keeps w393 w406 [X, M] ∧ ∃ (q411 : Option Addr), ∃ (n412 : Nat), ∃ (n413 : Nat), w406.cell? { block := D, off := (0 : Nat) } = some (Value.slice q411 n412 n413) ∧ w406.frozen? { block := D, off := (0 : Nat) } = false ∧ ∃ (q414 : Option Addr), ∃ (n415 : Nat), ∃ (n416 : Nat), w406.cell? { block := D, off := (1 : Nat) } = some (Value.slice q414 n415 n416) ∧ w406.frozen? { block := D, off := (1 : Nat) } = false ∧ ∃ (q417 : Option Addr), ∃ (n418 : Nat), ∃ (n419 : Nat), w406.cell? { block := D, off := (2 : Nat) } = some (Value.slice q417 n418 n419) ∧ w406.frozen? { block := D, off := (2 : Nat) } = false ∧ Wr IntKind.u8 (fill + (1 : Int)) fun (i420 : Int) => Known w406 [(X, [((0 : Nat), Value.int IntKind.i64 k), ((1 : Nat), Value.int IntKind.i64 x), ((2 : Nat), Value.slice qb nb cb), ((3 : Nat), Value.slice qk nk ck), ((4 : Nat), Value.int IntKind.u8 fill)]), (D, [((0 : Nat), Value.slice q411 n412 n413), ((1 : Nat), Value.slice q414 n415 n416), ((2 : Nat), Value.slice q417 n418 n419)]), (M, [((0 : Nat), Value.slice q27 n28 n29), ((1 : Nat), Value.slice q30 n31 n32), ((2 : Nat), Value.slice q33 n34 n35), ((3 : Nat), Value.slice q36 n37 n38)])] → Rets Try.prog (19 : Nat) #[Value.pointer (some { block := D, off := (0 : Nat) }), Value.slice none (0 : Nat) (0 : Nat), Value.int IntKind.u8 i420] w406 fun (v421 : Value) (w422 : World) => v421 = Value.tuple #[] ∧ Keeps w406 w422 [X, M] ∧ ∃ (q423 : Option Addr), ∃ (n424 : Nat), ∃ (n425 : Nat), w422.cell? { block := D, off := (0 : Nat) } = some (Value.slice q423 n424 n425) ∧ w422.frozen? { block := D, off := (0 : Nat) } = false ∧ ∃ (q426 : Option Addr), ∃ (n427 : Nat), ∃ (n428 : Nat), w422.cell? { block := D, off := (1 : Nat) } = some (Value.slice q426 n427 n428) ∧ w422.frozen? { block := D, off := (1 : Nat) } = false ∧ ∃ (q429 : Option Addr), ∃ (n430 : Nat), ∃ (n431 : Nat), w422.cell? { block := D, off := (2 : Nat) } = some (Value.slice q429 n430 n431) ∧ w422.frozen? { block := D, off := (2 : Nat) } = false ∧ (Known w422 [(X, [((0 : Nat), Value.int IntKind.i64 k), ((1 : Nat), Value.int IntKind.i64 x), ((2 : Nat), Value.slice qb nb cb), ((3 : Nat), Value.slice qk nk ck), ((4 : Nat), Value.int IntKind.u8 fill)]), (D, [((0 : Nat), Value.slice q423 n424 n425), ((1 : Nat), Value.slice q426 n427 n428), ((2 : Nat), Value.slice q429 n430 n431)]), (M, [((0 : Nat), Value.slice q27 n28 n29), ((1 : Nat), Value.slice q30 n31 n32), ((2 : Nat), Value.slice q33 n34 n35), ((3 : Nat), Value.slice q36 n37 n38)])] → Rets Try.prog (18 : Nat) #[Value.pointer (some { block := D, off := (0 : Nat) })] w422 fun (v432 : Value) (w433 : World) => ∃ (i434 : Int), v432 = Value.int IntKind.i64 i434 ∧ Keeps w422 w433 [X, M] ∧ ∃ (q435 : Option Addr), ∃ (n436 : Nat), ∃ (n437 : Nat), w433.cell? { block := D, off := (0 : Nat) } = some (Value.slice q435 n436 n437) ∧ w433.frozen? { block := D, off := (0 : Nat) } = false ∧ ∃ (q438 : Option Addr), ∃ (n439 : Nat), ∃ (n440 : Nat), w433.cell? { block := D, off := (1 : Nat) } = some (Value.slice q438 n439 n440) ∧ w433.frozen? { block := D, off := (1 : Nat) } = false ∧ ∃ (q441 : Option Addr), ∃ (n442 : Nat), ∃ (n443 : Nat), w433.cell? { block := D, off := (2 : Nat) } = some (Value.slice q441 n442 n443) ∧ w433.frozen? { block := D, off := (2 : Nat) } = false ∧ Wr IntKind.i64 ((512 : Int) * i434) fun (i444 : Int) => Known w433 [(X, [((0 : Nat), Value.int IntKind.i64 k), ((1 : Nat), Value.int IntKind.i64 x), ((2 : Nat), Value.slice qb nb cb), ((3 : Nat), Value.slice qk nk ck), ((4 : Nat), Value.int IntKind.u8 fill)]), (D, [((0 : Nat), Value.slice q435 n436 n437), ((1 : Nat), Value.slice q438 n439 n440), ((2 : Nat), Value.slice q441 n442 n443)]), (M, [((0 : Nat), Value.slice q27 n28 n29), ((1 : Nat), Value.slice q30 n31 n32), ((2 : Nat), Value.slice q33 n34 n35), ((3 : Nat), Value.slice q36 n37 n38)])] → Rets Try.prog (17 : Nat) #[Value.pointer (some { block := D, off := (0 : Nat) }), Value.int IntKind.i64 (0 : Int), Value.int IntKind.i64 i444] w433 fun (v445 : Value) (w446 : World) => ∃ (q447 : Option Addr), ∃ (n448 : Nat), ∃ (n449 : Nat), ∃ (i450 : Int), v445 = Value.tuple #[Value.slice q447 n448 n449, Value.int IntKind.i64 i450] ∧ Keeps w433 w446 [X, M] ∧ ∃ (q451 : Option Addr), ∃ (n452 : Nat), ∃ (n453 : Nat), w446.cell? { block := D, off := (0 : Nat) } = some (Value.slice q451 n452 n453) ∧ w446.frozen? { block := D, off := (0 : Nat) } = false ∧ ∃ (q454 : Option Addr), ∃ (n455 : Nat), ∃ (n456 : Nat), w446.cell? { block := D, off := (1 : Nat) } = some (Value.slice q454 n455 n456) ∧ w446.frozen? { block := D, off := (1 : Nat) } = false ∧ ∃ (q457 : Option Addr), ∃ (n458 : Nat), ∃ (n459 : Nat), w446.cell? { block := D, off := (2 : Nat) } = some (Value.slice q457 n458 n459) ∧ w446.frozen? { block := D, off := (2 : Nat) } = false ∧ ∃ (s460 : ByteArray), s460.size = n408 ∧ BytesAt w446 q407 s460 ∧ ∃ (s461 : ByteArray), s461.size = n448 ∧ BytesAt w446 q447 s461 ∧ bif s460.toList == s461.toList then Known w446 [(X, [((0 : Nat), Value.int IntKind.i64 k), ((1 : Nat), Value.int IntKind.i64 x), ((2 : Nat), Value.slice qb nb cb), ((3 : Nat), Value.slice qk nk ck), ((4 : Nat), Value.int IntKind.u8 fill)]), (D, [((0 : Nat), Value.slice q451 n452 n453), ((1 : Nat), Value.slice q454 n455 n456), ((2 : Nat), Value.slice q457 n458 n459)]), (M, [((0 : Nat), Value.slice q27 n28 n29), ((1 : Nat), Value.slice q30 n31 n32), ((2 : Nat), Value.slice q33 n34 n35), ((3 : Nat), Value.slice q36 n37 n38)])] → Rets Try.prog (21 : Nat) #[Value.pointer (some { block := D, off := (0 : Nat) })] w446 fun (v462 : Value) (w463 : World) => ∃ (i464 : Int), v462 = Value.int IntKind.i64 i464 ∧ Keeps w446 w463 [X, M] ∧ ∃ (q465 : Option Addr), ∃ (n466 : Nat), ∃ (n467 : Nat), w463.cell? { block := D, off := (0 : Nat) } = some (Value.slice q465 n466 n467) ∧ w463.frozen? { block := D, off := (0 : Nat) } = false ∧ ∃ (q468 : Option Addr), ∃ (n469 : Nat), ∃ (n470 : Nat), w463.cell? { block := D, off := (1 : Nat) } = some (Value.slice q468 n469 n470) ∧ w463.frozen? { block := D, off := (1 : Nat) } = false ∧ ∃ (q471 : Option Addr), ∃ (n472 : Nat), ∃ (n473 : Nat), w463.cell? { block := D, off := (2 : Nat) } = some (Value.slice q471 n472 n473) ∧ w463.frozen? { block := D, off := (2 : Nat) } = false ∧ bif i464 == (0 : Int) then Known w463 [(X, [((0 : Nat), Value.int IntKind.i64 k), ((1 : Nat), Value.int IntKind.i64 x), ((2 : Nat), Value.slice qb nb cb), ((3 : Nat), Value.slice qk nk ck), ((4 : Nat), Value.int IntKind.u8 fill)]), (D, [((0 : Nat), Value.slice q465 n466 n467), ((1 : Nat), Value.slice q468 n469 n470), ((2 : Nat), Value.slice q471 n472 n473)]), (M, [((0 : Nat), Value.slice q27 n28 n29), ((1 : Nat), Value.slice q30 n31 n32), ((2 : Nat), Value.slice q33 n34 n35), ((3 : Nat), Value.slice q36 n37 n38)])] → Rets Try.prog (18 : Nat) #[Value.pointer (some { block := D, off := (0 : Nat) })] w463 fun (v474 : Value) (w475 : World) => ∃ (i476 : Int), v474 = Value.int IntKind.i64 i476 ∧ Keeps w463 w475 [X, M] ∧ ∃ (q477 : Option Addr), ∃ (n478 : Nat), ∃ (n479 : Nat), w475.cell? { block := D, off := (0 : Nat) } = some (Value.slice q477 n478 n479) ∧ w475.frozen? { block := D, off := (0 : Nat) } = false ∧ ∃ (q480 : Option Addr), ∃ (n481 : Nat), ∃ (n482 : Nat), w475.cell? { block := D, off := (1 : Nat) } = some (Value.slice q480 n481 n482) ∧ w475.frozen? { block := D, off := (1 : Nat) } = false ∧ ∃ (q483 : Option Addr), ∃ (n484 : Nat), ∃ (n485 : Nat), w475.cell? { block := D, off := (2 : Nat) } = some (Value.slice q483 n484 n485) ∧ w475.frozen? { block := D, off := (2 : Nat) } = false ∧ bif i476 == i197 then Known w475 [(X, [((0 : Nat), Value.int IntKind.i64 k), ((1 : Nat), Value.int IntKind.i64 x), ((2 : Nat), Value.slice qb nb cb), ((3 : Nat), Value.slice qk nk ck), ((4 : Nat), Value.int IntKind.u8 fill)]), (D, [((0 : Nat), Value.slice q477 n478 n479), ((1 : Nat), Value.slice q480 n481 n482), ((2 : Nat), Value.slice q483 n484 n485)]), (M, [((0 : Nat), Value.slice q27 n28 n29), ((1 : Nat), Value.slice q30 n31 n32), ((2 : Nat), Value.slice q33 n34 n35), ((3 : Nat), Value.slice q36 n37 n38)])] → Rets Try.prog (13 : Nat) #[] w475 fun (v486 : Value) (w487 : World) => ∃ (t488 : Bool), v486 = Value.bool t488 ∧ Keeps w475 w487 [X, D, M] ∧ (Known w487 [(X, [((0 : Nat), Value.int IntKind.i64 k), ((1 : Nat), Value.int IntKind.i64 x), ((2 : Nat), Value.slice qb nb cb), ((3 : Nat), Value.slice qk nk ck), ((4 : Nat), Value.int IntKind.u8 fill)]), (D, [((0 : Nat), Value.slice q477 n478 n479), ((1 : Nat), Value.slice q480 n481 n482), ((2 : Nat), Value.slice q483 n484 n485)]), (M, [((0 : Nat), Value.slice q27 n28 n29), ((1 : Nat), Value.slice q30 n31 n32), ((2 : Nat), Value.slice q33 n34 n35), ((3 : Nat), Value.slice q36 n37 n38)])] → R (Ending.returned (Value.bool t488)) w487) else Known w475 [(X, [((0 : Nat), Value.int IntKind.i64 k), ((1 : Nat), Value.int IntKind.i64 x), ((2 : Nat), Value.slice qb nb cb), ((3 : Nat), Value.slice qk nk ck), ((4 : Nat), Value.int IntKind.u8 fill)]), (D, [((0 : Nat), Value.slice q477 n478 n479), ((1 : Nat), Value.slice q480 n481 n482), ((2 : Nat), Value.slice q483 n484 n485)]), (M, [((0 : Nat), Value.slice q27 n28 n29), ((1 : Nat), Value.slice q30 n31 n32), ((2 : Nat), Value.slice q33 n34 n35), ((3 : Nat), Value.slice q36 n37 n38)])] → R (Ending.returned (Value.bool false)) w475 else Known w463 [(X, [((0 : Nat), Value.int IntKind.i64 k), ((1 : Nat), Value.int IntKind.i64 x), ((2 : Nat), Value.slice qb nb cb), ((3 : Nat), Value.slice qk nk ck), ((4 : Nat), Value.int IntKind.u8 fill)]), (D, [((0 : Nat), Value.slice q465 n466 n467), ((1 : Nat), Value.slice q468 n469 n470), ((2 : Nat), Value.slice q471 n472 n473)]), (M, [((0 : Nat), Value.slice q27 n28 n29), ((1 : Nat), Value.slice q30 n31 n32), ((2 : Nat), Value.slice q33 n34 n35), ((3 : Nat), Value.slice q36 n37 n38)])] → R (Ending.returned (Value.bool false)) w463 else Known w446 [(X, [((0 : Nat), Value.int IntKind.i64 k), ((1 : Nat), Value.int IntKind.i64 x), ((2 : Nat), Value.slice qb nb cb), ((3 : Nat), Value.slice qk nk ck), ((4 : Nat), Value.int IntKind.u8 fill)]), (D, [((0 : Nat), Value.slice q451 n452 n453), ((1 : Nat), Value.slice q454 n455 n456), ((2 : Nat), Value.slice q457 n458 n459)]), (M, [((0 : Nat), Value.slice q27 n28 n29), ((1 : Nat), Value.slice q30 n31 n32), ((2 : Nat), Value.slice q33 n34 n35), ((3 : Nat), Value.slice q36 n37 n38)])] → R (Ending.returned (Value.bool false)) w446))
theorem tail4 {E : Nat} {k x : Int} {qb : Option Addr} {nb cb : Nat} {qk : Option Addr} {nk ck : Nat} {fill : Int} {q27 : Option Addr} {n28 n29 : Nat} {q30 : Option Addr} {n31 n32 : Nat} {q33 : Option Addr} {n34 n35 : Nat} {q36 : Option Addr} {n37 n38 : Nat} {i197 : Int} {R : Ending → World → Prop}
    (h : Dsk w col D s) (oX : X < w.heap.size ∧ col X = 0) (oM : M < w.heap.size ∧ col M = 0) (hE : E ≤ w.heap.size) (hn : ∀ i, col i ≠ 0 → E ≤ i) {kb : Nat → Bool} (hb : Bools w qk nk kb) (hbE : 0 < nk → ∀ a, qk = some a → a.block < E) (hf : isByte fill) (hl : s.wait.length ≤ 100000) (hi : i197 = s.size)
    (hR : ∀ w', Kp (fun i => E ≤ i) w w' → R (.returned (.bool true)) w') :
    Tail4 D X M k x qb nb cb qk nk ck fill q27 n28 n29 q30 n31 n32 q33 n34 n35 q36 n37 n38 i197 w R := by
  unfold Tail4
  have hs := h.ok.size
  have oXM : Out w col [X, M] := fun b hb => by
    simp at hb
    rcases hb with rfl | rfl
    · exact oX
    · exact oM
  refine st19 h oXM hE hn hb (fun h0 a ha => by
    by_cases c : col a.block = 0
    · exact c
    · have := hn _ c
      have := hbE h0 a ha
      omega) hf hl fun w1 col1 k1 g1 h1 o1 n1 _ _ _ _ _ _ _ _ _ => ?_
  intro _
  refine st18 h1 o1 fun _ _ _ _ _ _ _ _ _ => ?_
  have hs1 := h1.ok.size
  refine wr64 (by omega) ?_
  intro _
  refine st17 h1 o1 rfl fun w2 q2 c2 k2 s2 h2 o2 _ _ _ _ _ _ _ _ _ => ?_
  have hE2 : E ≤ w2.heap.size := by have := k1.size; have := k2.size; omega
  refine wru8 ?_
  intro _
  refine st19 h2 o2 hE2 n1 (kb := fun _ => false) (fun i hi => by omega) (fun h0 => by omega) ⟨Int.emod_nonneg _ (by decide), Int.emod_lt_of_pos _ (by decide)⟩ (by show ([] : List (Nat × (Int → Int))).length ≤ _; simp) fun w3 col3 k3 g3 h3 o3 n3 _ _ _ _ _ _ _ _ _ => ?_
  intro _
  refine st18 h3 o3 fun _ _ _ _ _ _ _ _ _ => ?_
  have hs3 := h3.ok.size
  refine wr64 (by omega) ?_
  intro _
  refine st17 h3 o3 rfl fun w4 q4 c4 k4 s4 h4 o4 _ _ _ _ _ _ _ _ _ => ?_
  have sa := (s2.next k3 g3).kp0 k4
  have hz := crash_size s nk kb fill
  have hz2 := crash_size (crashSt s nk kb fill) 0 (fun _ => false) ((fill + 1) % 256)
  have eq : bytesOf (crashSt (crashSt s nk kb fill) 0 (fun _ => false) ((fill + 1) % 256)) = bytesOf (crashSt s nk kb fill) := by
    unfold bytesOf
    rw [hz2]
    exact read_str hz2 (fun p p0 p1 => crash_synced (sync_synced _) 0 _ _ p0 (by rw [hz2] at p1; exact p1)) _ (by omega)
  rw [eq] at s4
  refine ⟨bytesOf (crashSt s nk kb fill), by rw [bytesOf_size], sa.1, bytesOf (crashSt s nk kb fill), by rw [bytesOf_size]; omega, s4.1, ?_⟩
  rw [beq_self_eq_true]
  simp only [cond_true]
  intro _
  refine st21 h4 o4 fun _ _ _ _ _ _ _ _ _ => ?_
  show cond true _ _
  simp only [cond_true]
  intro _
  refine st18 h4 o4 fun _ _ _ _ _ _ _ _ _ => ?_
  rw [hz2, hz, hi, beq_self_eq_true]
  simp only [cond_true]
  intro _
  refine (c13 w4).mono ?_
  rintro v w5 ⟨rfl, k5⟩
  refine ⟨_, rfl, k5.keeps (fun b hb => ⟨?_, id⟩), fun _ => hR w5 ?_⟩
  · simp at hb
    rcases hb with rfl | rfl | rfl
    · exact (o4 _ (by simp)).1
    · exact h4.dlt
    · exact (o4 _ (by simp)).1
  · exact ((((k1.mono fun i _ hi => hn i hi).trans (k2.mono fun _ _ h => h.elim)).trans (k3.mono fun i _ hi => n1 i hi)).trans (k4.mono fun _ _ h => h.elim)).trans (k5.mono fun _ _ h => h.elim)
end
end Go.Proofs.Ytlgkcbdpaffigaa
