import Derived.Test.YtodgnegbaigdbaaGc
namespace Go.Proofs.Ytodgnegbaigdbaa
open Go Go.SX Go.Proofs
set_option maxRecDepth 100000
set_option linter.unusedVariables false
set_option linter.unusedSimpArgs false
/-- A slice's elements are these tokens. -/
def Toks (w : World) (q : Option Addr) (l : List Tok) : Prop := ∀ (i : Nat) (t : Tok), l[i]? = some t → ∃ a, q = some a ∧ w.cell? (a.add (i * 3)) = some (.int .u8 t.1) ∧ w.cell? (a.add (i * 3 + 1)) = some (.int .i64 t.2.1) ∧ w.cell? (a.add (i * 3 + 2)) = some (.int .i64 t.2.2)
section
variable {w w' : World} {q : Option Addr} {n cp : Nat} {b : Int → Int}
theorem Toks.kp0 {l : List Tok} (h : Toks w q l) (k : Kp none_ w w') : Toks w' q l := fun i t ht => by
  obtain ⟨a, e, h1, h2, h3⟩ := h i t ht
  exact ⟨a, e, k.cell0 h1, k.cell0 h2, k.cell0 h3⟩
theorem Toks.of {own : Nat → Prop} {l : List Tok} {m c : Nat} (h : OwnRow w own 49 3 (.slice q m c) l.length (tokR l)) : Toks w q l := fun i t ht => by
  obtain ⟨a, e, h0⟩ := h.at (j := i * 3) (u := .int .u8 t.1) (by have := tokR_get ht 0 (by omega); simpa [tokC] using this)
  obtain ⟨a1, e1, h1⟩ := h.at (j := i * 3 + 1) (u := .int .i64 t.2.1) (by have := tokR_get ht 1 (by omega); simpa [tokC] using this)
  obtain ⟨a2, e2, h2⟩ := h.at (j := i * 3 + 2) (u := .int .i64 t.2.2) (by have := tokR_get ht 2 (by omega); simpa [tokC] using this)
  rw [e] at e1 e2; cases e1; cases e2
  exact ⟨a, e, h0, h1, h2⟩
theorem c30 {q1 q2 : Option Addr} {c1 c2 : Nat} {l : List Tok} (hl : l.length ≤ 2147483647) (h1 : Toks w q1 l) (h2 : Toks w q2 l) :
    Rets Try.prog 30 #[.slice q1 l.length c1, .slice q2 l.length c2] w fun v w' => v = .bool true ∧ Kp none_ w w' := by
  refine ent [_, _] Try.func30 ((vcTry30 _ _ _ _ _ _ w _).mpr ?_)
  unfold VCTry30
  refine bif_ne (fun h => absurd rfl h) (fun _ => ?_)
  refine ⟨fun i w' => (0 ≤ i ∧ i ≤ l.length) ∧ Kp none_ w w', fun i _ => (l.length - i).toNat, ⟨by omega, Kp.refl _ _⟩, ?_⟩
  rintro i w1 ⟨hi, k⟩
  refine bif_dec (fun h => ?_) (fun h => ⟨_, rfl, rfl, k⟩)
  obtain ⟨t, ht⟩ : ∃ t, l[i.toNat]? = some t := ⟨l[i.toNat]'(by omega), List.getElem?_eq_getElem _⟩
  obtain ⟨a, rfl, x0, x1, x2⟩ := (h1.kp0 k.drew) i.toNat t ht
  obtain ⟨a', rfl, y0, y1, y2⟩ := (h2.kp0 k.drew) i.toNat t ht
  simp only [ptr_some, add_add, Nat.add_zero]
  refine ⟨by omega, _, _, _, ⟨x0, x1, x2, trivial⟩, by omega, _, _, _, ⟨y0, y1, y2, trivial⟩, trivial, ?_⟩
  simp only [beq_self_eq_true, Bool.and_self, Bool.not_true, cond_false]
  exact wr64 (by omega) ⟨⟨by omega, k.drew⟩, by first | omega | (dsimp only; omega)⟩
theorem tok_append {wA WX : World} {l : List Tok} {q : Option Addr} {c : Nat} (t : Tok) {x : Value} {y z : Value} (hx : x = .int .u8 t.1) (hy : y = .int .i64 t.2.1) (hz : z = .int .i64 t.2.2) {K : Value → World → Prop} (hrow : OwnRow wA (fresh w) 49 3 (.slice q l.length c) l.length (tokR l)) (hk : Kp none_ w wA) (kX : Kp none_ wA WX) (hlt : wA.heap.size < WX.heap.size) (hl : l.length ≤ 2147483647)
    (hK : ∀ q' c' w', OwnRow w' (fresh w) 49 3 (.slice q' (l ++ [t]).length c') (l ++ [t]).length (tokR (l ++ [t])) → Kp none_ w w' → Keeps (WX.alloc (.cells #[x, y, z] 49)) w' [wA.heap.size] → K (.slice q' (l ++ [t]).length c') w') :
    Runs Try.prog (Builtin.append_ #[42, 42] 42 #[.slice q l.length c, .slice (some ⟨WX.heap.size, 0, none⟩) 1 1]) (WX.alloc (.cells #[x, y, z] 49)) K := by
  subst hx; subst hy; subst hz
  have hs := hk.size
  refine append_new (own := fun i => fresh w i ∧ i < wA.heap.size) (xs := tokR l) #[Value.int .u8 t.1, .int .i64 t.2.1, .int .i64 t.2.2] Try.underlying42 elem49 (by omega)
    ((hrow.mono fun i hi hl => ⟨hi, hl⟩).kp kX fun _ _ _ _ _ => id) rfl (by simp [ok_u8, ok_i64]) (by omega) ?_
  intro q' c' w' h1 h2 h3
  have e : l.length + 1 = (l ++ [t]).length := by simp
  rw [e] at h1 ⊢
  refine hK q' c' w' ?_ ?_ (h3.keeps fun b hb => ?_)
  · rw [tokR_app]
    refine h1.mono fun i hi _ => ?_
    rcases hi with hi | hi
    · exact hi.1
    · have hi : WX.heap.size ≤ i := hi
      unfold fresh; omega
  · exact (hk.trans kX).then h2 fun i hi h => by have := h.1; unfold fresh at this; omega
  · simp only [List.mem_singleton] at hb
    subst hb
    exact ⟨by rw [alloc_size]; omega, fun h => by omega⟩
theorem c32 (hb : Ints w .u8 q n b) (hr : ∀ i : Int, 0 ≤ i → i < n → 0 ≤ b i ∧ b i < 256) (hn : n ≤ 2147483000) (level : Int) :
    Rets Try.prog 32 #[.slice q n cp, .int .i64 level] w fun v w' => ∃ q' c, v = .slice q' (toksF b n level).length c ∧ Kp none_ w w' ∧ OwnRow w' (fresh w) 49 3 v (toksF b n level).length (tokR (toksF b n level)) := by
  refine ent [_, _] Try.func32 ((vcTry32 _ _ _ _ w _).mpr ?_)
  unfold VCTry32
  have hlen : ∀ l m, toksF b n level = l ++ m → l.length ≤ 2147483647 := fun l m h => by
    have h1 := toks_len (tokAt b n (depthF level) (decide (level ≥ 2))) n 0
    have h2 := congrArg List.length h
    rw [List.length_append] at h2
    unfold toksF at h2
    omega
  refine ⟨fun at_ q' k c w1 => 0 ≤ at_ ∧ ∃ l, toksF b n level = l ++ toks (tokAt b n (depthF level) (decide (level ≥ 2))) n at_ ∧ k = l.length ∧ Kp none_ w w1 ∧ OwnRow w1 (fresh w) 49 3 (.slice q' k c) l.length (tokR l), fun at_ _ _ _ _ => (n - at_).toNat,
    ⟨by omega, [], rfl, rfl, Kp.refl _ _, OwnRow.nil _ _ _ _⟩, ?_⟩
  rintro at_ q' k c w1 ⟨hat, l, hl, rfl, k1, hrow⟩
  have hdr := depthF_range level
  refine bif_dec (fun hlt => ?_) (fun hge => ?_)
  rotate_left
  · rw [toks_end (by omega), List.append_nil] at hl
    rw [hl]
    exact ⟨_, rfl, q', c, rfl, k1, hrow⟩
  refine (c34 w1 level).mono ?_
  rintro v wx ⟨rfl, e⟩
  obtain rfl := e.symm
  refine ⟨_, rfl, (Kp.refl none_ _).keeps0, (c21 (cp := cp) (hb.kp0 k1) (by omega) at_ (depthF level) (by omega)).mono ?_⟩
  rintro v w2 ⟨rfl, k2⟩
  refine ⟨_, _, rfl, k2.keeps0, wr64 (by omega) ((c34 w2 level).mono ?_)⟩
  rintro v wx ⟨rfl, e⟩
  obtain rfl := e.symm
  refine ⟨_, rfl, (Kp.refl none_ _).keeps0, (c21 (cp := cp) (hb.kp0 (k1.trans k2)) (by omega) (at_ + 1) (depthF level) (by omega)).mono ?_⟩
  rintro v w3 ⟨rfl, k3⟩
  refine ⟨_, _, rfl, k3.keeps0, ?_⟩
  have kw := (k1.trans k2).trans k3
  have hrow3 := hrow.kp (k2.trans k3) fun _ _ _ _ _ => id
  have ht := toks_step (T := tokAt b n (depthF level) (decide (level ≥ 2))) (n := n) (at_ := at_) (by omega)
  have hF := findF_range b n at_ (depthF level)
  have kT : ∀ (v0 v1 v2 : Value), Kp none_ w3 ((((w3.alloc (.cells #[Value.int .u8 0, .int .i64 0, .int .i64 0] 49)).setCell ⟨w3.heap.size, 0, none⟩ v0).setCell ⟨w3.heap.size, 1, none⟩ v1).setCell ⟨w3.heap.size, 2, none⟩ v2) := fun v0 v1 v2 =>
    Kp.setCell (Kp.setCell (Kp.setCell ((Kp.refl none_ w3).alloc1 _) _ (.inr (Nat.le_refl _))) _ (.inr (Nat.le_refl _))) _ (.inr (Nat.le_refl _))
  have kT2 : ∀ (v0 v1 v2 : Value) {wB : World}, Kp none_ w3 wB → Kp none_ w3 (((wB.setCell ⟨w3.heap.size, 0, none⟩ v0).setCell ⟨w3.heap.size, 1, none⟩ v1).setCell ⟨w3.heap.size, 2, none⟩ v2) := fun v0 v1 v2 _ k =>
    Kp.setCell (Kp.setCell (Kp.setCell k _ (.inr (Nat.le_refl _))) _ (.inr (Nat.le_refl _))) _ (.inr (Nat.le_refl _))
  have zz : ∀ (x : World) (a : Addr) (v : Value), (x.setCell a v).heap.size = x.heap.size := fun x a v => by simp [World.setCell]
  -- a byte
  have lit : ∀ t, tokAt b n (depthF level) (decide (level ≥ 2)) at_ = t → ∃ m, toksF b n level = (l ++ [t]) ++ m ∧ m = toks (tokAt b n (depthF level) (decide (level ≥ 2))) n (at_ + max 1 t.2.1) := fun t e => ⟨_, by rw [hl, ht, e]; simp, rfl⟩
  have normal : (findF b n at_ (depthF level)).1 ≠ 0 → ¬ (decide (level ≥ 2) = true ∧ (findF b n at_ (depthF level)).1 < 258 ∧ (findF b n at_ (depthF level)).1 < (findF b n (at_ + 1) (depthF level)).1) →
      tokAt b n (depthF level) (decide (level ≥ 2)) at_ = (0, (findF b n at_ (depthF level)).1, (findF b n at_ (depthF level)).2) := fun h1 h2 => by
    unfold tokAt; rw [if_neg (fun h => h.elim h1 h2)]
  have byte : ((findF b n at_ (depthF level)).1 = 0 ∨ (decide (level ≥ 2) = true ∧ (findF b n at_ (depthF level)).1 < 258 ∧ (findF b n at_ (depthF level)).1 < (findF b n (at_ + 1) (depthF level)).1)) →
      tokAt b n (depthF level) (decide (level ≥ 2)) at_ = (b at_, 0, 0) := fun h => by unfold tokAt; rw [if_pos h]
  refine bif_eq (fun h0 => ?_) (fun h0 => bif_dec (fun h1 => bif_dec (fun h2 => bif_dec (fun h3 => ?_) (fun h3 => ?_)) (fun h2 => ?_)) (fun h1 => ?_))
  · obtain ⟨m, hm, hm2⟩ := lit _ (byte (.inl h0))
    refine ((hb.kp0 kw).kp0 (kT _ _ _)).get hat hlt fun a _ => ?_
    refine tok_append (b at_, 0, 0) rfl rfl rfl hrow3 kw (kT2 _ _ _ (kT _ _ _)) (by simp only [zz, alloc_size]; omega) (hlen _ _ hl) fun q' c' w' hr' hk' hkeep => ?_
    refine ⟨_, _, _, rfl, hkeep, wr64 (by omega) (wr64 (by omega) ⟨⟨by omega, _, by rw [hm, hm2, show at_ + max 1 ((b at_, 0, 0) : Tok).2.1 = at_ + 0 + 1 by dsimp only; omega], rfl, hk', hr'⟩, by first | omega | (dsimp only; omega)⟩)⟩
  · obtain ⟨m, hm, hm2⟩ := lit _ (byte (.inr ⟨decide_eq_true (by omega), h2, h3⟩))
    refine ((hb.kp0 kw).kp0 (kT _ _ _)).get hat hlt fun a _ => ?_
    refine tok_append (b at_, 0, 0) rfl rfl rfl hrow3 kw (kT2 _ _ _ (kT _ _ _)) (by simp only [zz, alloc_size]; omega) (hlen _ _ hl) fun q' c' w' hr' hk' hkeep => ?_
    refine ⟨_, _, _, rfl, hkeep, wr64 (by omega) (wr64 (by omega) ⟨⟨by omega, _, by rw [hm, hm2, show at_ + max 1 ((b at_, 0, 0) : Tok).2.1 = at_ + 0 + 1 by dsimp only; omega], rfl, hk', hr'⟩, by first | omega | (dsimp only; omega)⟩)⟩
  · obtain ⟨m, hm, hm2⟩ := lit _ (normal h0 (fun h => h3 h.2.2))
    refine tok_append (0, (findF b n at_ (depthF level)).1, (findF b n at_ (depthF level)).2) rfl rfl rfl hrow3 kw (kT _ _ _) (by simp only [zz, alloc_size]; omega) (hlen _ _ hl) fun q' c' w' hr' hk' hkeep => ?_
    refine ⟨_, _, _, rfl, hkeep, wr64 (by omega) (bif_eq (fun h => absurd h h0) fun _ => ⟨⟨by omega, _, by rw [hm, hm2, show at_ + max 1 ((0, (findF b n at_ (depthF level)).1, (findF b n at_ (depthF level)).2) : Tok).2.1 = at_ + (findF b n at_ (depthF level)).1 by dsimp only; omega], rfl, hk', hr'⟩, by first | omega | (dsimp only; omega)⟩)⟩
  · obtain ⟨m, hm, hm2⟩ := lit _ (normal h0 (fun h => h2 h.2.1))
    refine tok_append (0, (findF b n at_ (depthF level)).1, (findF b n at_ (depthF level)).2) rfl rfl rfl hrow3 kw (kT _ _ _) (by simp only [zz, alloc_size]; omega) (hlen _ _ hl) fun q' c' w' hr' hk' hkeep => ?_
    refine ⟨_, _, _, rfl, hkeep, wr64 (by omega) (bif_eq (fun h => absurd h h0) fun _ => ⟨⟨by omega, _, by rw [hm, hm2, show at_ + max 1 ((0, (findF b n at_ (depthF level)).1, (findF b n at_ (depthF level)).2) : Tok).2.1 = at_ + (findF b n at_ (depthF level)).1 by dsimp only; omega], rfl, hk', hr'⟩, by first | omega | (dsimp only; omega)⟩)⟩
  · obtain ⟨m, hm, hm2⟩ := lit _ (normal h0 (fun h => h1 (by have := of_decide_eq_true h.1; omega)))
    refine tok_append (0, (findF b n at_ (depthF level)).1, (findF b n at_ (depthF level)).2) rfl rfl rfl hrow3 kw (kT _ _ _) (by simp only [zz, alloc_size]; omega) (hlen _ _ hl) fun q' c' w' hr' hk' hkeep => ?_
    refine ⟨_, _, _, rfl, hkeep, wr64 (by omega) (bif_eq (fun h => absurd h h0) fun _ => ⟨⟨by omega, _, by rw [hm, hm2, show at_ + max 1 ((0, (findF b n at_ (depthF level)).1, (findF b n at_ (depthF level)).2) : Tok).2.1 = at_ + (findF b n at_ (depthF level)).1 by dsimp only; omega], rfl, hk', hr'⟩, by first | omega | (dsimp only; omega)⟩)⟩
/-- "aaaa". -/
def aaaa : Int → Int := fun _ => 97
theorem toks_aaaa : toksF aaaa 4 0 = [(97, 0, 0), (0, 3, 1)] := by decide +kernel
def aaaaL : Array Value := #[.int .u8 97, .int .u8 97, .int .u8 97, .int .u8 97]
theorem aaaa_ints (w : World) (fr : Nat × Nat) : Ints (w.alloc (.cells aaaaL 5 fr)) .u8 (some ⟨w.heap.size, 0, none⟩) 4 aaaa := by
  intro i h0 h1
  refine ⟨_, rfl, ?_⟩
  have hh : (w.alloc (.cells aaaaL 5 fr)).heap[w.heap.size]? = some (.cells aaaaL 5 fr) := by rw [alloc_get, if_pos rfl]
  rw [ad_add]
  simp only [World.cell?, hh, Nat.zero_add]
  have : i = 0 ∨ i = 1 ∨ i = 2 ∨ i = 3 := by omega
  rcases this with rfl | rfl | rfl | rfl <;> rfl
theorem conv_aaaa (w : World) : (convert 25 25 (.slice (some ⟨w.heap.size, 0, none⟩) 4 4)).run Try.prog (w.alloc (.cells aaaaL 5)) = .ok (.slice (some ⟨w.heap.size, 0, none⟩) 4 4) (w.alloc (.cells aaaaL 5 (4, 5))) :=
  Go.Lib.run_convert_bytes_const w 25 5 aaaaL 4 4 Try.underlying25 Try.underlying5
theorem c29 (w : World) : Rets Try.prog 29 #[] w fun v w' => v = .bool true ∧ Kp none_ w w' := by
  refine ent [] Try.func29 ((vcTry29 w _).mpr ?_)
  unfold VCTry29
  refine ⟨_, _, conv_aaaa w, _, _, _, rfl, ⟨by rw [alloc_size, alloc_size]; exact Nat.le_refl _, fun b hb => by cases hb⟩, ?_⟩
  have k1 : Kp none_ w (w.alloc (.cells aaaaL 5 (4, 5))) := (Kp.refl none_ w).alloc1 _
  refine (c31 (cp := 4) (aaaa_ints w (4, 5)) (fun i _ _ => by unfold aaaa; omega) (by omega) (by omega) 0).mono ?_
  rintro v w2 ⟨q, c, rfl, k2, h⟩
  rw [toks_aaaa] at h ⊢
  have ht := Toks.of h
  obtain ⟨a, rfl, x0, x1, x2⟩ := ht 0 _ rfl
  obtain ⟨a', e, y0, y1, y2⟩ := ht 1 _ rfl
  cases e
  refine ⟨_, _, _, rfl, k2.keeps0, bif_eq (fun _ => ?_) (fun h => absurd rfl h)⟩
  refine ⟨by decide, ?_⟩
  simp only [ptr_some, add_add, Nat.add_zero]
  refine ⟨_, _, _, ⟨x0, x1, x2, trivial⟩, trivial, ?_⟩
  refine bif_b (fun _ => ?_) (fun h => by cases h)
  refine ⟨by decide, _, _, _, ⟨y0, y1, y2, trivial⟩, trivial, _, rfl, rfl, k1.trans k2⟩
theorem live29 (w w1 : World) (k : Kp none_ w w1) : Rets Try.prog 29 #[] w1 fun v w2 => ∃ t : Bool, v = .bool t ∧ Keeps w1 w2 [] ∧ ∃ v', Ending.returned (.bool t) = .returned v' ∧ v' = .bool true ∧ Kp none_ w w2 :=
  (c29 w1).mono fun v w2 ⟨e, k2⟩ => ⟨true, e, k2.keeps0, _, rfl, rfl, k.trans k2⟩
theorem c9 (hb : Ints w .u8 q n b) (hr : ∀ i : Int, 0 ≤ i → i < n → 0 ≤ b i ∧ b i < 256) (hcp : n ≤ cp) (level : Int) : Rets Try.prog 9 #[.slice q n cp, .int .i64 level] w fun v w' => v = .bool true ∧ Kp none_ w w' := by
  refine ent [_, _] Try.func9 ((vcTry9 _ _ _ _ w _).mpr ?_)
  unfold VCTry9
  refine bif_dec (fun _ => live29 w w (Kp.refl _ _)) (fun g1 => ?_)
  have hlen : (toksF b n level).length ≤ 2147483647 := by
    have h1 := toks_len (tokAt b n (depthF level) (decide (level ≥ 2))) n 0
    unfold toksF
    omega
  refine (c31 hb hr hcp (by omega) level).mono ?_
  rintro v w1 ⟨q1, c1, rfl, k1, h1⟩
  refine ⟨_, _, _, rfl, k1.keeps0, (c32 (hb.kp0 k1) hr (by omega) level).mono ?_⟩
  rintro v w2 ⟨q2, c2, rfl, k2, h2⟩
  refine ⟨_, _, _, rfl, k2.keeps0, (c30 hlen ((Toks.of h1).kp0 k2) (Toks.of h2)).mono ?_⟩
  rintro v w3 ⟨rfl, k3⟩
  refine ⟨_, rfl, k3.keeps0, bif_b (fun _ => (c33 w3 level).mono ?_) (fun h => by cases h)⟩
  rintro v wx ⟨rfl, e⟩
  obtain rfl := e.symm
  refine ⟨_, rfl, (Kp.refl none_ _).keeps0, (c34 w3 level).mono ?_⟩
  rintro v wx ⟨rfl, e⟩
  obtain rfl := e.symm
  exact ⟨_, rfl, (Kp.refl none_ _).keeps0, bif_eq (fun _ => live29 w w3 ((k1.trans k2).trans k3)) (fun h => absurd rfl h)⟩
end
end Go.Proofs.Ytodgnegbaigdbaa
