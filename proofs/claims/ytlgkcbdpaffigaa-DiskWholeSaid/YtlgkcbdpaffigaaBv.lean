import Derived.Test.YtlgkcbdpaffigaaBu
import Derived.Test.YtlgkcbdpaffigaaRa
import Derived.Test.YtlgkcbdpaffigaaVce
import Derived.Test.YtlgkcbdpaffigaaSxApp
namespace Go.Proofs.Ytlgkcbdpaffigaa
open Go Go.SX Go.Proofs Go.Lib
set_option maxRecDepth 100000
set_option linter.unusedVariables false
set_option linter.unusedSimpArgs false
section
variable {w w' : World} {col col' : Col} {D X M : Nat} {s : St}
/-- Bytes of a whole disk of 16 sectors. -/
theorem st17e {E : Nat} (h : Dsk w col D s) {bs : List Nat} (o : Out w col bs) (hz : s.size = 16) {K : Option Addr → Nat → Nat → Int → World → Option Addr → Nat → Nat → Option Addr → Nat → Nat → Option Addr → Nat → Nat → Prop}
    (hK : ∀ w' q c, 8192 ≤ c → Kp none_ w w' → Str w' col q (strOf (readF s 0) 0 8192) → Dsk w' col D s → Out w' col bs → ∀ q1 n1 c1 q2 n2 c2 q3 n3 c3, K q 8192 c 0 w' q1 n1 c1 q2 n2 c2 q3 n3 c3) :
    Rets Try.prog 17 #[.pointer (some ⟨D, 0, none⟩), .int .i64 0, .int .i64 8192] w fun v w' => ∃ q n c i, v = .tuple #[.slice q n c, .int .i64 i] ∧ Keeps w w' bs ∧ ∃ q1 n1 c1, w'.cell? ⟨D, 0, none⟩ = some (.slice q1 n1 c1) ∧ w'.frozen? ⟨D, 0, none⟩ = false ∧ ∃ q2 n2 c2, w'.cell? ⟨D, 1, none⟩ = some (.slice q2 n2 c2) ∧ w'.frozen? ⟨D, 1, none⟩ = false ∧ ∃ q3 n3 c3, w'.cell? ⟨D, 2, none⟩ = some (.slice q3 n3 c3) ∧ w'.frozen? ⟨D, 2, none⟩ = false ∧ K q n c i w' q1 n1 c1 q2 n2 c2 q3 n3 c3 := by
  have hr : rightF 0 ((8192 : Nat) : Int) = true := by unfold rightF; exact decide_eq_true (by omega)
  refine (c17 h 0 8192 hr (by omega)).mono ?_
  rintro v w1 ⟨q1, c1, rfl, k1, r1⟩
  have hrb := row_bytes r1 (readF_byte h.ok 0)
  refine ⟨_, _, _, _, rfl, o.keeps0 k1, (h.kp0 k1).reads (hK w1 q1 c1 r1.lens.2 k1 ⟨hrb, fun a ha h0 => ?_⟩ (h.kp0 k1) (fun b hb => ⟨Nat.lt_of_lt_of_le (o b hb).1 k1.size, (o b hb).2⟩))⟩
  obtain ⟨g, cur, e, _, hg, _⟩ := r1.parts (by omega)
  rw [ha] at e
  cases e
  have hg : w.heap.size ≤ g := hg
  by_cases c : col g = 0
  · exact c
  · have := h.lt g c
    omega
/-- A part of bytes. -/
theorem bytes_cut {q : Option Addr} {c n : Nat} {f : Int → Int} (h : BytesAt w q (strOf f 0 n)) {l k : Nat} (hl : l + k ≤ n) (hc : n ≤ c) : BytesAt w (cutA q c l 1) (strOf f l k) := by
  intro i hi
  have hik : i < k := by rw [strOf_size] at hi; exact hi
  obtain ⟨a, e, hcl⟩ := h (l + i) (by rw [strOf_size]; omega)
  subst e
  have hne : ¬ c = l := by omega
  refine ⟨a.add l, by simp [cutA, hne], ?_⟩
  rw [add_add, hcl, strOf_get, strOf_get, show (0 : Int) + ((l + i : Nat) : Int) = (l : Int) + (i : Int) by omega]
theorem row_ints {own : Nat → Prop} {f : Int → Int} {q : Option Addr} {n m c : Nat} (h : OwnRow w own 5 1 (.slice q m c) n (byF f n)) : Ints w .u8 q n f := fun i h0 h1 => by
  obtain ⟨a, e, hc⟩ := h.at (j := i.toNat) (u := .int .u8 (f i.toNat)) (byF_get _ (by omega))
  exact ⟨a, e, by rw [hc]; congr 3; omega⟩
/-- So many of the sectors that a write touches lie ahead of one. -/
def cntF (x : Int) (nb : Nat) (i : Int) : Int := if nb = 0 then 0 else max 0 (min i (hiF x nb) - loF x)
theorem c5 (W : World) (o : WhD) (ho : o.Good W) : Rets Try.prog 5 #[o.args] W fun v w' => v = .bool true ∧ Kp none_ W w' := by
  refine ent [_] Try.func5 ((vcTry5 _ _ _ _ _ _ _ _ _ _ W _).mpr ?_)
  unfold VCTry5
  have kf : ∀ {w : World}, Kp none_ W w → Kp (fun i => W.heap.size ≤ i) W w := fun k => k.mono fun _ _ h => h.elim
  have ka : Kp none_ W (W.alloc (.cells #[.slice o.qa o.na o.ca, .slice o.qb o.nb o.cb, .int .i64 o.x, .slice o.qk o.nk o.ck] 49)).drew := ((Kp.refl none_ W).alloc _ _).drew
  have sz : (W.alloc (.cells #[.slice o.qa o.na o.ca, .slice o.qb o.nb o.cb, .int .i64 o.x, .slice o.qk o.nk o.ck] 49)).drew.heap.size = W.heap.size + 1 := alloc_size _ _
  generalize (W.alloc (.cells #[.slice o.qa o.na o.ca, .slice o.qb o.nb o.cb, .int .i64 o.x, .slice o.qk o.nk o.ck] 49)).drew = w0 at *
  have live : ∀ {w : World} {bs : List Nat} {K : Bool → World → Prop}, Kp (fun i => W.heap.size ≤ i) W w → (∀ b ∈ bs, b < w.heap.size) → (∀ w', Kp (fun i => W.heap.size ≤ i) W w' → K true w') →
      Rets Try.prog 13 #[] w fun v w' => ∃ t, v = .bool t ∧ Keeps w w' bs ∧ K t w' := fun k hs hR => (c13 _).mono (by
    rintro v w' ⟨rfl, k2⟩
    exact ⟨_, rfl, k2.keeps (fun b hb => ⟨hs b hb, id⟩), hR w' (k.trans (k2.mono fun _ _ h => h.elim))⟩)
  have kf' : ∀ (w : World), Kp (fun i => W.heap.size ≤ i) w w.drew := fun w => (Kp.refl _ w).drew
  have fin : ∀ {w' : World}, Kp (fun i => W.heap.size ≤ i) W w' → Kp none_ W w' := fun k => ⟨k.os, k.tape, k.out, k.frz, k.size, fun i hi _ => k.same i hi (by omega)⟩
  have l0 : ∀ b ∈ [W.heap.size], b < w0.heap.size := fun b hb => by simp at hb; omega
  refine bif_dec (fun _ => fun _ => live (kf ka) l0 fun w' k _ => ⟨_, rfl, rfl, fin k⟩) (fun hna => ?_)
  refine bif_dec (fun _ => fun _ => live (kf ka) l0 fun w' k _ => ⟨_, rfl, rfl, fin k⟩) (fun hnb => ?_)
  refine bif_dec (fun _ => fun _ => live (kf ka) l0 fun w' k _ => ⟨_, rfl, rfl, fin k⟩) (fun hx0 => ?_)
  refine bif_dec (fun _ => fun _ => live (kf ka) l0 fun w' k _ => ⟨_, rfl, rfl, fin k⟩) (fun hx1 => ?_)
  refine bif_dec (fun _ => fun _ => live (kf ka) l0 fun w' k _ => ⟨_, rfl, rfl, fin k⟩) (fun hnk => ?_)
  -- a disk of nothing
  have kb : Kp none_ w0 (w0.alloc (.cells #[.slice none 0 0, .slice none 0 0, .slice none 0 0] 29)) := (Kp.refl none_ w0).alloc _ _
  have sb : (w0.alloc (.cells #[.slice none 0 0, .slice none 0 0, .slice none 0 0] 29)).heap.size = w0.heap.size + 1 := alloc_size _ _
  have d1 : Dsk (w0.alloc (.cells #[.slice none 0 0, .slice none 0 0, .slice none 0 0] 29)) (newCol w0.heap.size) w0.heap.size emptySt :=
    Dsk.new (by omega) (fun o => frozen_new _ _ _ o) (cell_alloc_new rfl) (cell_alloc_new rfl) (cell_alloc_new rfl)
  have k1 := ka.trans kb
  generalize w0.alloc (.cells #[.slice none 0 0, .slice none 0 0, .slice none 0 0] 29) = w1 at *
  refine lit_own (size := 1) Try.underlying25 info5e fun w2 r2 k2 => ?_
  have l1 : ∀ b ∈ [W.heap.size, w0.heap.size], b < w1.heap.size := fun b hb => by simp at hb; omega
  refine ⟨_, _, _, rfl, k2.keeps (fun b hb => ⟨l1 b hb, id⟩), ?_⟩
  have hq := ho.a
  refine append_ints (own := fresh w1) Try.underlying25 elem5 r2 (hq.kp0 (k1.trans k2)) (by omega) fun q3 c3 w3 r3 k3 => ?_
  have z2 := k2.size
  have z3 := k3.size
  refine ⟨_, _, _, rfl, k3.keeps (fun b hb => ⟨by have := l1 b hb; omega, fun hh => by have := l1 b hb; unfold fresh at hh; omega⟩), ?_⟩
  have e8 : (8192 : Int) - (o.na : Int) = ((8192 - o.na : Nat) : Int) := by omega
  refine wr64 (by omega) ?_
  rw [e8]
  refine zeros_own (size := 1) (bytes := 1) (z := .int .u8 0) Try.underlying25 Try.underlying3 info5 rfl (by omega) (by omega) (fun u hu => ?_) r3 (by omega) (by omega) (fun q4 c4 w4 r4 k4 => ?_)
  · rw [zerosL_one rfl] at hu
    rw [List.eq_of_mem_replicate hu]
    simp [Value.oneCell']
  have z4 := k4.size
  refine ⟨_, _, _, rfl, k4.keeps (fun b hb => ⟨by have := l1 b hb; omega, fun hh => by have := l1 b hb; unfold fresh at hh; omega⟩), ?_⟩
  -- the bytes
  have er : [] ++ intsL .u8 o.a o.na ++ zerosL (.int .u8 0) (8192 - o.na) = byF (fun p => if p < (o.na : Int) then o.a p else 0) 8192 := by
    have := byF_grow o.a o.na (8192 - o.na)
    rw [show o.na + (8192 - o.na) = 8192 by omega] at this
    rw [this, zerosL_one rfl]
    rfl
  rw [er, show 0 + o.na + (8192 - o.na) = 8192 by omega] at r4
  rw [show 0 + o.na + (8192 - o.na) = 8192 by omega]
  have k14 : Kp (fun i => w1.heap.size ≤ i) w1 w4 := ((k2.mono fun _ _ h => h.elim).trans (k3.mono fun i _ hi => hi)).trans (k4.mono fun i _ hi => by
    rcases hi with hi | hi
    · exact hi
    · have hi : w2.heap.size ≤ i := hi
      show w1.heap.size ≤ i
      omega)
  have d4 : Dsk w4 (newCol w0.heap.size) w0.heap.size emptySt := d1.kp k14 fun i hi => by
    by_cases c : newCol w0.heap.size i = 0
    · exact c
    · have := newCol_ne c; omega
  have kW4 : Kp (fun i => W.heap.size ≤ i) W w4 := (kf k1).trans (k14.mono fun i _ hi => by omega)
  have hn4 : ∀ i, newCol w0.heap.size i ≠ 0 → W.heap.size ≤ i := fun i hi => by have := newCol_ne hi; omega
  have o4 : Out w4 (newCol w0.heap.size) [W.heap.size] := fun b hb => by
    simp at hb
    subst hb
    refine ⟨by omega, ?_⟩
    by_cases c : newCol w0.heap.size W.heap.size = 0
    · exact c
    · have := newCol_ne c; omega
  intro _
  refine st20 (E := W.heap.size) d4 o4 kW4.size hn4 (row_ints r4) (fun i h0 h1 => ?_) (fun _ a ha => ?_) (by decide) 0 fun i5 w5 col5 k5 g5 d5 o5 n5 _ _ _ _ _ _ _ _ _ => ?_
  · show isByte (if _ then _ else _)
    split
    · exact ho.aby i h0 (by omega)
    · unfold isByte; omega
  · obtain ⟨g, cur, e, _, hg, _⟩ := r4.parts (by omega)
    rw [ha] at e
    cases e
    by_cases c : newCol w0.heap.size g = 0
    · exact c
    · have := newCol_ne c
      have hg' : w1.heap.size ≤ g := by rcases hg with (hg | hg) | hg <;> unfold fresh at hg <;> omega
      omega
  have kW5 : Kp (fun i => W.heap.size ≤ i) W w5 := kW4.trans (k5.mono fun i _ hi => hn4 i hi)
  have s5 : (writeIf emptySt 0 8192 (fun p => if p < (o.na : Int) then o.a p else 0)).size = 16 := by
    unfold writeIf
    rw [if_pos ⟨by decide, by omega⟩, write_size]
    rfl
  have wt5 : (writeIf emptySt 0 8192 (fun p => if p < (o.na : Int) then o.a p else 0)).wait.length ≤ 1000 := by
    unfold writeIf
    rw [if_pos ⟨by decide, by omega⟩, write_wait]
    decide
  generalize writeIf emptySt 0 8192 (fun p => if p < (o.na : Int) then o.a p else 0) = s1 at *
  intro _
  refine st16 d5 o5 kW5.size n5 fun w6 col6 k6 g6 d6 o6 n6 _ _ _ _ _ _ _ _ _ => ?_
  have kW6 : Kp (fun i => W.heap.size ≤ i) W w6 := kW5.trans (k6.mono fun i _ hi => n5 i hi)
  have sy6 := sync_synced s1
  have wt6 : (syncSt s1).wait = [] := rfl
  have s6 : (syncSt s1).size = 16 := s5
  generalize syncSt s1 = s2 at *
  intro _
  refine st17e (E := W.heap.size) d6 o6 s6 fun w7 q7 c7 h7 k7 str7 d7 o7 _ _ _ _ _ _ _ _ _ => ?_
  have kW7 : Kp (fun i => W.heap.size ≤ i) W w7 := kW6.trans (k7.mono fun _ _ h => h.elim)
  have blk : ∀ {q : Option Addr} {w : World} {m : Nat}, (0 < m → ∃ a, q = some a ∧ ∃ v, W.cell? a = some v) → 0 < m → ∀ a, q = some a → a.block < W.heap.size := fun h h0 a ha => by
    obtain ⟨a', e, v, hc⟩ := h h0
    rw [ha] at e
    cases e
    exact cell_lt hc
  have qbE : 0 < o.nb → ∀ a, o.qb = some a → a.block < W.heap.size := fun h0 a ha => by
    obtain ⟨a', e, hc⟩ := ho.b 0 (by omega) (by omega)
    rw [ha] at e
    cases e
    have := cell_lt hc
    rwa [add_block] at this
  have qkE : 0 < o.nk → ∀ a, o.qk = some a → a.block < W.heap.size := fun h0 a ha => by
    obtain ⟨a', e, hc⟩ := ho.bools 0 h0
    rw [ha] at e
    cases e
    have := cell_lt hc
    rwa [add_block] at this
  intro _
  refine st20 d7 o7 kW7.size n6 (Ints.far ho.b kW7 (Nat.le_refl _)) ho.bby (fun h0 => blk_far (qbE h0) n6) (by rw [wt6]; simp) o.x fun i8 w8 col8 k8 g8 d8 o8 n8 _ _ _ _ _ _ _ _ _ => ?_
  have kW8 : Kp (fun i => W.heap.size ≤ i) W w8 := kW7.trans (k8.mono fun i _ hi => n6 i hi)
  have hi16 : o.nb ≠ 0 → hiF o.x o.nb ≤ s2.size := fun _ => by rw [s6]; unfold hiF; omega
  have ew : writeIf s2 o.x o.nb o.b = if o.nb ≠ 0 then writeSt s2 o.x o.nb o.b else s2 := by
    unfold writeIf
    by_cases h0 : o.nb ≠ 0
    · rw [if_pos ⟨by unfold rightF; exact decide_eq_true (by omega), h0⟩, if_pos h0]
    · rw [if_neg (fun h => h0 h.2), if_neg h0]
  have s8 : (writeIf s2 o.x o.nb o.b).size = 16 := by
    rw [ew]
    split
    · rename_i h0
      have := hi16 h0
      rw [write_size]; omega
    · exact s6
  have wt8 : (writeIf s2 o.x o.nb o.b).wait.length ≤ 1000 := by
    rw [ew]
    split
    · rw [write_wait, wt6]; unfold hiF loF; simp; omega
    · rw [wt6]; simp
  intro _
  refine st17e (E := W.heap.size) d8 o8 s8 fun w9 q9 c9 h9 k9 str9 d9 o9 _ _ _ _ _ _ _ _ _ => ?_
  have kW9 : Kp (fun i => W.heap.size ≤ i) W w9 := kW8.trans (k9.mono fun _ _ h => h.elim)
  intro _
  refine st19 d9 o9 kW9.size n8 (ho.bools.far kW9 (Nat.le_refl _)) (fun h0 => blk_far (qkE h0) n8) (by unfold isByte; omega) (by omega) fun w10 col10 k10 g10 d10 o10 n10 _ _ _ _ _ _ _ _ _ => ?_
  have kW10 : Kp (fun i => W.heap.size ≤ i) W w10 := kW9.trans (k10.mono fun i _ hi => n8 i hi)
  have s10 : (crashSt (writeIf s2 o.x o.nb o.b) o.nk o.kb 9).size = 16 := (crash_size _ _ _ _).trans s8
  intro _
  refine st17e (E := W.heap.size) d10 o10 s10 fun w11 q11 c11 h11 k11 str11 d11 o11 qa11 na11 ca11 qb11 nb11 cb11 qc11 nc11 cc11 => ?_
  have kW11 : Kp (fun i => W.heap.size ≤ i) W w11 := kW10.trans (k11.mono fun _ _ h => h.elim)
  have x7 := (((str7.next k8 g8).kp0 k9).next k10 g10).kp0 k11
  have x9 := (str9.next k10 g10).kp0 k11
  refine bif_ne (fun h => absurd rfl h) (fun _ => bif_ne (fun h => absurd rfl h) (fun _ => bif_ne (fun h => absurd rfl h) (fun _ => ?_)))
  have hD : w0.heap.size < w11.heap.size := d11.dlt
  -- what a sector is behind the crash
  have sec : ∀ i : Nat, i < 16 → strOf (readF (crashSt (writeIf s2 o.x o.nb o.b) o.nk o.kb 9) 0) (512 * i : Nat) 512 =
      if o.nb ≠ 0 ∧ loF o.x ≤ i ∧ i < hiF o.x o.nb ∧ i - loF o.x < o.nk ∧ o.kb (i - loF o.x) = true then strOf (readF (writeIf s2 o.x o.nb o.b) 0) (512 * i : Nat) 512 else strOf (readF s2 0) (512 * i : Nat) 512 := by
    intro i hi
    have main : ∀ j : Nat, j < 512 → (crashSt (writeIf s2 o.x o.nb o.b) o.nk o.kb 9).now ((512 * i + j : Nat) : Int) = if o.nb ≠ 0 ∧ loF o.x ≤ i ∧ i < hiF o.x o.nb ∧ i - loF o.x < o.nk ∧ o.kb (i - loF o.x) = true then (writeIf s2 o.x o.nb o.b).now ((512 * i + j : Nat) : Int) else s2.now ((512 * i + j : Nat) : Int) := by
      intro j hj
      rw [ew]
      by_cases h0 : o.nb ≠ 0
      · rw [if_pos h0]
        have hg : growSt s2 (hiF o.x o.nb) = s2 := if_neg (by have := hi16 h0; omega)
        have e : (writeSt s2 o.x o.nb o.b).now = overF s2.now o.b o.x o.nb := by unfold writeSt; rw [hg]
        rw [crash_write sy6 (by omega) (hi16 h0) _ _ _ (by omega) (by rw [s6]; omega), e, show ((((512 * i + j : Nat) : Int)) / 512).toNat = i by omega]
        by_cases c : loF o.x ≤ i ∧ i < hiF o.x o.nb ∧ i - loF o.x < o.nk ∧ o.kb (i - loF o.x) = true
        · rw [if_pos ⟨by omega, by omega, c.2.2⟩, if_pos ⟨h0, c⟩]
        · rw [if_neg (fun h => c ⟨by omega, by omega, h.2.2⟩), if_neg (fun h => c h.2)]
      · rw [if_neg h0, if_neg (fun h => h0 h.1)]
        exact crash_synced sy6 _ _ _ (by omega) (by rw [s6]; omega)
    by_cases c : o.nb ≠ 0 ∧ loF o.x ≤ i ∧ i < hiF o.x o.nb ∧ i - loF o.x < o.nk ∧ o.kb (i - loF o.x) = true
    · rw [if_pos c]
      refine strOf_eq fun j hj => ?_
      have := main j hj
      rw [if_pos c] at this
      unfold readF
      rw [s10, s8, if_pos (by omega), if_pos (by omega), show (0 : Int) + (((512 * i : Nat) : Int) + (j : Int)) = ((512 * i + j : Nat) : Int) by omega]
      exact this
    · rw [if_neg c]
      refine strOf_eq fun j hj => ?_
      have := main j hj
      rw [if_neg c] at this
      unfold readF
      rw [s10, s6, if_pos (by omega), if_pos (by omega), show (0 : Int) + (((512 * i : Nat) : Int) + (j : Int)) = ((512 * i + j : Nat) : Int) by omega]
      exact this
  refine ⟨fun i k w' => (0 ≤ i ∧ i ≤ 16) ∧ k = cntF o.x o.nb i ∧ Kp none_ w11 w', fun i _ _ => (16 - i).toNat, ⟨by omega, ?_, Kp.refl _ _⟩, ?_⟩
  · unfold cntF; split <;> omega
  rintro i k w12 ⟨hi, rfl, k12⟩
  intro _
  have k12' : Kp none_ w11 w12.drew := k12.trans (Kp.refl none_ w12).drew
  have kW12 : Kp (fun i => W.heap.size ≤ i) W w12 := kW11.trans (k12.mono fun _ _ h => h.elim)
  refine bif_dec (fun hlt => ?_) (fun hge => ?_)
  rotate_left
  · intro _
    refine live kW12 (fun b hb => ?_) fun w' k _ => ⟨_, rfl, rfl, fin k⟩
    have := k12.size
    have := kW11.size
    simp at hb
    omega
  obtain ⟨I, rfl⟩ := Int.eq_ofNat_of_zero_le hi.1
  have hI : I < 16 := by omega
  have y7 := x7.kp0 k12'
  have y9 := x9.kp0 k12'
  have y11 := str11.kp0 k12'
  have e1 : (512 * (I : Int)).toNat = 512 * I := by omega
  have e2 : (512 * (I : Int) + 512).toNat = 512 * I + 512 := by omega
  refine wr64 (by omega) (wr64 (by omega) (wr64 (by omega) ⟨by omega, by omega, strOf (readF s2 0) (512 * I : Nat) 512, by rw [strOf_size]; omega, ?_, ?_⟩))
  · rw [e1]; exact bytes_cut y7.1 (by omega) h7
  refine wr64 (by omega) (wr64 (by omega) (wr64 (by omega) ⟨by omega, by omega, strOf (readF (writeIf s2 o.x o.nb o.b) 0) (512 * I : Nat) 512, by rw [strOf_size]; omega, ?_, ?_⟩))
  · rw [e1]; exact bytes_cut y9.1 (by omega) h9
  refine wr64 (by omega) (wr64 (by omega) (wr64 (by omega) ⟨by omega, by omega, strOf (readF (crashSt (writeIf s2 o.x o.nb o.b) o.nk o.kb 9) 0) (512 * I : Nat) 512, by rw [strOf_size]; omega, ?_, ?_⟩))
  · rw [e1]; exact bytes_cut y11.1 (by omega) h11
  have hsec := sec I hI
  have hlo : (loF o.x : Int) = o.x / 512 := by unfold loF; omega
  have hhi : (hiF o.x o.nb : Int) = (o.x + o.nb + 511) / 512 := by unfold hiF; omega
  have cnt0 : o.nb = 0 → cntF o.x o.nb I = 0 ∧ cntF o.x o.nb ((I : Int) + 1) = 0 := fun h => ⟨if_pos h, if_pos h⟩
  have cnt1 : o.nb ≠ 0 → cntF o.x o.nb I = max 0 (min (I : Int) (hiF o.x o.nb) - loF o.x) ∧ cntF o.x o.nb ((I : Int) + 1) = max 0 (min ((I : Int) + 1) (hiF o.x o.nb) - loF o.x) := fun h => ⟨if_neg h, if_neg h⟩
  by_cases touched : o.nb ≠ 0 ∧ loF o.x ≤ I ∧ I < hiF o.x o.nb
  · obtain ⟨t0, t1, t2⟩ := touched
    have t3 : (512 : Int) * I < o.x + o.nb := by omega
    have t4 : (512 : Int) * I + 512 > o.x := by omega
    have ec : cntF o.x o.nb I = ((I - loF o.x : Nat) : Int) := by rw [(cnt1 t0).1]; omega
    have ec' : cntF o.x o.nb I + 1 = cntF o.x o.nb ((I : Int) + 1) := by rw [(cnt1 t0).1, (cnt1 t0).2]; omega
    refine bif_dec (fun _ => wr64 (by omega) (wr64 (by omega) (bif_dec (fun _ => wr64 (by omega) (wr64 (by omega) (bif_dec (fun _ => ?_) (fun h => absurd t4 h)))) (fun h => absurd t3 h)))) (fun h => absurd (by omega) h)
    refine bif_dec (fun hk => ⟨⟨by rw [ec]; omega, hk⟩, ?_⟩) (fun hk => ?_)
    · have hkn : I - loF o.x < o.nk := by omega
      obtain ⟨a, e, hc⟩ := (ho.bools.far (kW12.trans (kf' w12)) (Nat.le_refl _)) (I - loF o.x) hkn
      rw [e]
      refine ⟨o.kb (I - loF o.x), by rw [ec, Nat.mul_one, Int.toNat_natCast]; exact hc, bif_dec (fun _ => wr64 (by omega) ?_) (fun h => absurd t4 h)⟩
      cases hb : o.kb (I - loF o.x)
      · rw [if_neg (fun h => by rw [hb] at h; exact absurd h.2.2.2.2 (by decide))] at hsec
        rw [hsec]
        simp only [cond_true, cond_false, Bool.not_false, Bool.not_true, beq_self_eq_true]
        exact wr64 (by omega) ⟨rfl, ⟨by omega, ec', k12'⟩, by omega⟩
      · rw [if_pos ⟨t0, t1, t2, hkn, hb⟩] at hsec
        rw [hsec]
        simp only [cond_true, cond_false, Bool.not_false, Bool.not_true, beq_self_eq_true]
        exact wr64 (by omega) ⟨rfl, ⟨by omega, ec', k12'⟩, by omega⟩
    · rw [if_neg (fun h => by omega)] at hsec
      rw [hsec]
      refine bif_dec (fun _ => wr64 (by omega) ?_) (fun h => absurd t4 h)
      simp only [cond_true, cond_false, Bool.not_false, Bool.not_true, beq_self_eq_true]
      exact wr64 (by omega) ⟨rfl, ⟨by omega, ec', k12'⟩, by omega⟩
  · rw [if_neg (fun h => touched ⟨h.1, h.2.1, h.2.2.1⟩)] at hsec
    rw [hsec]
    have eq : cntF o.x o.nb I = cntF o.x o.nb ((I : Int) + 1) := by
      by_cases h0 : o.nb = 0
      · rw [(cnt0 h0).1, (cnt0 h0).2]
      · rw [(cnt1 h0).1, (cnt1 h0).2]
        have : ¬ (loF o.x ≤ I ∧ I < hiF o.x o.nb) := fun h => touched ⟨h0, h⟩
        omega
    refine bif_dec (fun t0 => wr64 (by omega) (wr64 (by omega) (bif_dec (fun t1 => wr64 (by omega) (wr64 (by omega) (bif_dec (fun t2 => absurd ⟨by omega, by omega, by omega⟩ touched) (fun t2 => bif_dec (fun h => absurd h t2) (fun _ => ?_))))) (fun t1 => ?_)))) (fun t0 => ?_)
    all_goals
      simp only [cond_true, cond_false, Bool.not_false, Bool.not_true, beq_self_eq_true]
      exact wr64 (by omega) ⟨rfl, ⟨by omega, eq, k12'⟩, by omega⟩
end
end Go.Proofs.Ytlgkcbdpaffigaa
