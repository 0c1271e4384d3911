import Derived.Test.YtlgkcbdpaffigaaBg
namespace Go.Proofs.Ytlgkcbdpaffigaa
open Go Go.SX Go.Proofs
set_option maxRecDepth 100000
set_option linter.unusedVariables false
set_option linter.unusedSimpArgs false
/-- A crash: what was safe comes back, sector by sector; then what is kept of what waits. -/
def crashA (s : St) (fill : Int) : Nat → St
  | 0 => s
  | k + 1 => setNow (crashA s fill k) k (if s.has k = true then secAt s.safe k else strangeF k fill)
def keepsA (s : St) (n : Nat) (kb : Nat → Bool) : Nat → St
  | 0 => s
  | k + 1 => match s.wait[k]? with
    | some e => if k < n ∧ kb k = true then setNow (keepsA s n kb k) e.1 (secAt e.2 e.1) else keepsA s n kb k
    | none => keepsA s n kb k
theorem crashA_same (s : St) (fill : Int) : ∀ k, (crashA s fill k).size = s.size ∧ (crashA s fill k).has = s.has ∧ (crashA s fill k).safe = s.safe ∧ (crashA s fill k).wait = s.wait
  | 0 => ⟨rfl, rfl, rfl, rfl⟩
  | k + 1 => crashA_same s fill k
theorem keepsA_same (s : St) (n : Nat) (kb : Nat → Bool) : ∀ k, (keepsA s n kb k).size = s.size ∧ (keepsA s n kb k).has = s.has ∧ (keepsA s n kb k).safe = s.safe ∧ (keepsA s n kb k).wait = s.wait
  | 0 => ⟨rfl, rfl, rfl, rfl⟩
  | k + 1 => by
    have h := keepsA_same s n kb k
    unfold keepsA
    split
    · split
      · exact h
      · exact h
    · exact h
def crashSt (s : St) (n : Nat) (kb : Nat → Bool) (fill : Int) : St := syncSt (keepsA (crashA s fill s.size) n kb s.wait.length)
/-- A row of bools. -/
def Bools (w : World) (q : Option Addr) (n : Nat) (kb : Nat → Bool) : Prop := ∀ i, i < n → ∃ a, q = some a ∧ w.cell? (a.add i) = some (.bool (kb i))
theorem Bools.kp {S : Nat → Prop} {w w' : World} {q : Option Addr} {n : Nat} {kb : Nat → Bool} (h : Bools w q n kb) (hk : Kp S w w') (hs : 0 < n → ∀ a, q = some a → ¬ S a.block) : Bools w' q n kb := fun i hi => by
  obtain ⟨a, e, hc⟩ := h i hi
  exact ⟨a, e, hk.cell hc (by rw [add_block]; exact hs (by omega) a e)⟩
section
variable {w w' : World} {col col' : Col} {D : Nat} {s : St} {S : Nat → Prop}
theorem secPut (h : Dsk w col D s) {i : Nat} (hi : i < s.size) {g c : Nat} (hD : w.cell? ⟨D, 0, none⟩ = some (.slice (some ⟨g, 0, none⟩) (512 * s.size) c)) {a : Addr} {c' : Nat} {f : Int → Int} (hs : Sec w col a f) (hf : ∀ j, isByte (f j)) {K : Value → World → Prop}
    (hK : ∀ w2, Kp (cl col 2) w w2 → Dsk w2 col D (setNow s i f) → K (.int .i64 512) w2) :
    Runs Try.prog (Builtin.copy_ #[25, 25] 3 #[.slice (some ⟨g, 512 * i, none⟩) 512 512, .slice (some a) 512 c']) w K := by
  have hrow := h.nowRow hD
  have hc : 512 * s.size ≤ c := (hrow.lens).2
  rw [← cutn (g := g) (c := c) (o := 512 * i) (by omega)]
  refine copy_own (own := cl col 2) (n := 512 * s.size) (cs := byF f 512) Try.underlying25 (by kernel_rfl) hrow (by rw [byF_len]; rfl) (by rw [byF_len]; omega) (by omega) (fun j v hj => ?_) (byF_one _ _) (fun w2 r2 k2 => ?_)
  · have hj' : j < 512 := by have := (List.getElem?_eq_some_iff.1 hj).1; rwa [byF_len] at this
    rw [byF_get _ hj'] at hj
    cases hj
    exact hs.2 j hj'
  · rw [byF_len, byF_over _ _ _ _ _ (by omega)] at r2
    have e : byF (fun p => if ((512 * i : Nat) : Int) ≤ p ∧ p < ((512 * i : Nat) : Int) + ((512 : Nat) : Int) then f (p - ((512 * i : Nat) : Int)) else s.now p) (512 * s.size) = byF (setNow s i f).now (512 * s.size) := by
      refine byF_congr fun j hj => ?_
      simp only [setNow]
      by_cases h1 : 512 * (i : Int) ≤ (j : Int) ∧ (j : Int) < 512 * i + 512
      · rw [if_pos h1, if_pos (by omega)]; congr 1
      · rw [if_neg h1, if_neg (by omega)]
    rw [e] at r2
    rw [byF_len]
    refine hK w2 k2 (h.nowSet hD k2 r2 fun p => ?_)
    show isByte (if _ then _ else _)
    split
    · exact hf _
    · exact h.ok.now p
theorem c19 (h : Dsk w col D s) {q : Option Addr} {n cp : Nat} {kb : Nat → Bool} (hb : Bools w q n kb) (hq : 0 < n → ∀ a, q = some a → col a.block = 0) (fill : Int) (hf : isByte fill) (hl : s.wait.length ≤ 100000) :
    Rets Try.prog 19 #[.pointer (some ⟨D, 0, none⟩), .slice q n cp, .int .u8 fill] w fun v w' => v = .tuple #[] ∧ Kp (ownC col) w w' ∧ ∃ col', Grow col col' w w' ∧ Dsk w' col' D (crashSt s n kb fill) := by
  refine ent [_, _, _] Try.func19 ((vcTry19 _ _ _ _ _ w _).mpr ?_)
  unfold VCTry19
  have hs := h.ok.size
  obtain ⟨q0, c0, xs0, t0, r0, m0⟩ := h.safe
  show cond false _ _
  simp only [cond_false, ptr_some, ad_add, Nat.zero_add, Nat.add_zero]
  have own2 : ∀ i, cl col 2 i → ownC col i := fun i hi => by have hi : col i = 2 := hi; show col i ≠ 0; omega
  refine ⟨_, _, _, t0, fun i w' => ∃ k : Nat, i = k ∧ k ≤ s.size ∧ Kp (cl col 2) w w' ∧ Dsk w' col D (crashA s fill k), fun i _ => (s.size - i).toNat, ⟨0, rfl, by omega, Kp.refl _ _, h⟩, ?_⟩
  rintro i w1 ⟨k, rfl, hk, k1, h1⟩
  obtain ⟨a1, a2, a3, a4⟩ := crashA_same s fill k
  have r1 := OwnRow.kpc (col' := col) r0 k1 (fun i _ hi => by have hi : col i = 2 := hi; omega) (fun _ _ => rfl)
  refine bif_dec (fun hlt => ?_) (fun hge => ?_)
  · have hki : k < s.size := by omega
    have hki1 : k < (crashA s fill k).size := by omega
    obtain ⟨g, eg, _⟩ := OwnRow.setAt r1 hki
    subst eg
    have hm := m0 k hki
    refine ⟨by omega, ?_⟩
    simp only [ptr_some, ad_add, Nat.zero_add, Nat.mul_one, Int.toNat_natCast]
    have next : crashA s fill (k + 1) = setNow (crashA s fill k) k (if s.has k = true then secAt s.safe k else strangeF k fill) := rfl
    cases hh : s.has k with
    | false =>
      obtain ⟨a, ea, ha⟩ := r1.at (hm.1 hh)
      cases ea
      rw [ad_add, Nat.zero_add] at ha
      refine ⟨_, _, _, ha, ?_⟩
      show cond true _ _
      simp only [cond_true]
      refine (c62 h1 k hki1).mono ?_
      rintro v wx ⟨⟨g', c', y1, y2, _, rfl⟩, e⟩
      obtain rfl := e.symm
      refine ⟨_, _, _, rfl, (Kp.refl none_ _).keeps0, (c64 h1 hki1 y1 fill hf).mono ?_⟩
      rintro v w2 ⟨rfl, k2, h2⟩
      rw [hh, if_neg (by decide)] at next
      exact ⟨rfl, k2.keeps0, wr64 (by omega) ⟨⟨k + 1, by omega, by omega, k1.trans k2, by rw [next]; exact h2⟩, by first | omega | (dsimp only; omega)⟩⟩
    | true =>
      obtain ⟨a, c', x1, x2, x3⟩ := hm.2 hh
      obtain ⟨a', ea, ha⟩ := r1.at x1
      cases ea
      rw [ad_add, Nat.zero_add] at ha
      refine ⟨_, _, _, ha, ?_⟩
      show cond false _ _
      simp only [cond_false]
      refine (c62 h1 k hki1).mono ?_
      rintro v wx ⟨⟨g', c'', y1, y2, _, rfl⟩, e⟩
      obtain rfl := e.symm
      have x4 := Sec.kpc (col' := col) x3 k1 (fun i _ hi => by have hi : col i = 2 := hi; omega) (fun _ _ => rfl)
      refine ⟨_, _, _, rfl, (Kp.refl none_ _).keeps0, secPut h1 hki1 y1 x4 (fun j => h.ok.safe _) fun w2 k2 h2 => ?_⟩
      rw [hh, if_pos rfl] at next
      exact ⟨_, rfl, k2.keeps0, wr64 (by omega) ⟨⟨k + 1, by omega, by omega, k1.trans k2, by rw [next]; exact h2⟩, by first | omega | (dsimp only; omega)⟩⟩
  -- what is kept
  have : k = s.size := by omega
  subst this
  generalize hsa : crashA s fill s.size = sa at *
  have hbase : sa.wait = s.wait ∧ sa.size = s.size := ⟨a4, a1⟩
  obtain ⟨q4, c4, ys, u1, u2, u3⟩ := h1.wait
  have hneq : 0 < n → ∀ a, q = some a → ¬ cl col 2 a.block := fun h0 a ha hh => by have := hq h0 a ha; unfold cl at hh; omega
  refine ⟨_, _, _, u1, fun i w' => ∃ k : Nat, i = k ∧ k ≤ s.wait.length ∧ Kp (cl col 2) w1 w' ∧ Dsk w' col D (keepsA sa n kb k), fun i _ => (s.wait.length - i).toNat, ⟨0, rfl, by omega, Kp.refl _ _, h1⟩, ?_⟩
  rintro i w2 ⟨k, rfl, hk2, k2, h2⟩
  obtain ⟨b1, b2, b3, b4⟩ := keepsA_same sa n kb k
  have kw : Kp (ownC col) w w2 := (k1.trans k2).mono fun i _ hi => own2 i hi
  refine bif_dec (fun hlt => ?_) (fun hge => ?_)
  rotate_left
  · have : k = s.wait.length := by rw [hbase.1] at hge; omega
    subst this
    refine (c16 h2).mono ?_
    rintro v w3 ⟨rfl, k3, col3, gr3, h3⟩
    refine ⟨rfl, k3.keeps0, _, rfl, rfl, kw.trans k3, col3, ⟨fun i hi => gr3.1 i (Nat.lt_of_lt_of_le hi kw.size), gr3.2⟩, ?_⟩
    unfold crashSt
    rw [hsa]
    exact h3
  rw [hbase.1] at hlt u1 u2
  have hkw : k < s.wait.length := by omega
  have u2' := OwnRow.kpc (col' := col) u2 k2 (fun i _ hi => by have hi : col i = 2 := hi; omega) (fun _ _ => rfl)
  obtain ⟨e, he⟩ : ∃ e, s.wait[k]? = some e := ⟨s.wait[k]'hkw, List.getElem?_eq_getElem _⟩
  obtain ⟨a, c', x0, x1, x2, x3⟩ := u3 k e (by rw [hbase.1]; exact he)
  obtain ⟨a1', ea, ha0⟩ := u2'.at x0
  obtain ⟨a2', ea2, ha1⟩ := u2'.at x1
  rw [ea] at ea2
  cases ea2
  subst ea
  have hmem := h.ok.wait e (List.mem_of_getElem? he)
  have next : keepsA sa n kb (k + 1) = if k < n ∧ kb k = true then setNow (keepsA sa n kb k) e.1 (secAt e.2 e.1) else keepsA sa n kb k := by
    show (match sa.wait[k]? with | some e => _ | none => _) = _
    rw [hbase.1, he]
  refine ⟨by rw [hbase.1]; omega, ?_⟩
  simp only [ptr_some, add_add, Int.toNat_natCast, Nat.add_zero]
  refine ⟨_, _, _, _, ⟨ha0, ha1, trivial⟩, ?_⟩
  have kT : Kp none_ w2 (((w2.alloc (.cells #[Value.int .i64 0, .slice none 0 0] 118)).setCell ⟨w2.heap.size, 0, none⟩ (.int .i64 e.1)).setCell ⟨w2.heap.size, 1, none⟩ (.slice (some a) 512 c')) :=
    Kp.setCell (Kp.setCell ((Kp.refl none_ w2).alloc1 _) _ (.inr (Nat.le_refl _))) _ (.inr (Nat.le_refl _))
  have cT : (((w2.alloc (.cells #[Value.int .i64 0, .slice none 0 0] 118)).setCell ⟨w2.heap.size, 0, none⟩ (.int .i64 e.1)).setCell ⟨w2.heap.size, 1, none⟩ (.slice (some a) 512 c')).cell? ⟨w2.heap.size, 1, none⟩ = some (.slice (some a) 512 c') := by
    refine cell_set_same _ (u := .slice none 0 0) ?_
    rw [cell_set_off _ (by omega)]
    exact cell_alloc_new rfl
  have sT : (((w2.alloc (.cells #[Value.int .i64 0, .slice none 0 0] 118)).setCell ⟨w2.heap.size, 0, none⟩ (.int .i64 e.1)).setCell ⟨w2.heap.size, 1, none⟩ (.slice (some a) 512 c')).heap.size = w2.heap.size + 1 := by simp [World.setCell, alloc_size]
  generalize (((w2.alloc (.cells #[Value.int .i64 0, .slice none 0 0] 118)).setCell ⟨w2.heap.size, 0, none⟩ (.int .i64 e.1)).setCell ⟨w2.heap.size, 1, none⟩ (.slice (some a) 512 c')) = WT at *
  have h3 := h2.kp0 kT
  have k2T : Kp (cl col 2) w1 WT := k2.trans (kT.mono fun _ _ h => h.elim)
  have hno : ∀ hh : ¬ (k < n ∧ kb k = true), (∃ k' : Nat, (k : Int) + 1 = k' ∧ k' ≤ s.wait.length ∧ Kp (cl col 2) w1 WT ∧ Dsk WT col D (keepsA sa n kb k')) ∧ (s.wait.length - ((k : Int) + 1)).toNat < (s.wait.length - (k : Int)).toNat := fun hh =>
    ⟨⟨k + 1, by omega, by omega, k2T, by rw [next, if_neg hh]; exact h3⟩, by omega⟩
  refine bif_dec (fun hn => ?_) (fun hn => wr64 (by omega) (hno (by omega)))
  have hbw : Bools WT q n kb := ((hb.kp k1 hneq).kp k2 hneq).kp kT fun _ _ _ => id
  obtain ⟨aq, rfl, hbc⟩ := hbw k (by omega)
  refine ⟨by omega, ?_⟩
  simp only [ptr_some, Nat.mul_one]
  refine ⟨_, hbc, bif_b (fun hkb _ => ?_) (fun hkb => wr64 (by omega) (hno (by rw [hkb]; simp)))⟩
  have hes : e.1 < (keepsA sa n kb k).size := by rw [b1, hbase.2]; exact hmem.1
  refine (c62 h3.drew e.1 hes).mono ?_
  rintro v wx ⟨⟨g', c'', y1, y2, _, rfl⟩, ew⟩
  obtain rfl := ew.symm
  have x4 : Sec WT.drew col a (secAt e.2 e.1) := Sec.kpc (col' := col) x3 k2T.drew (fun i _ hi => by have hi : col i = 2 := hi; omega) (fun _ _ => rfl)
  refine ⟨_, _, _, rfl, (Kp.refl none_ WT.drew).keeps (fun i hi => ⟨by simp at hi; show i < WT.heap.size; omega, id⟩), cT, secPut h3.drew hes y1 x4 (fun j => hmem.2 _) fun w5 k5 h5 => ?_⟩
  refine ⟨_, rfl, k5.keeps (fun i hi => ⟨by simp at hi; show i < WT.heap.size; omega, fun hh => ?_⟩), wr64 (by omega) ⟨⟨k + 1, by omega, by omega, k2T.drew.trans k5, by rw [next, if_pos ⟨by omega, hkb⟩]; exact h5⟩, by first | omega | (dsimp only; omega)⟩⟩
  simp at hi
  have hh : col i = 2 := hh
  have := h2.lt i (by omega)
  omega
end
end Go.Proofs.Ytlgkcbdpaffigaa
