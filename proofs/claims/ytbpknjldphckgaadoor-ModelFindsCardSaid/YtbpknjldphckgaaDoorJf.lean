/- Model: the document's With, Without. -/
import Derived.Test.YtbpknjldphckgaaDoorJe
namespace Go.Proofs.YtbpknjldphckgaaDoor
open Go Go.SX Go.Proofs Go.Lib
set_option maxRecDepth 100000
set_option linter.unusedVariables false
set_option linter.unusedSimpArgs false
/-- Files that are read, in the blocks of Q. -/
def FIn (w : World) (Q : Nat → Prop) (q : Option Addr) (n : Nat) (L : List Fil) : Prop := ∃ l : List Fx, l.map Fx.fil = L ∧ n = l.length ∧ FxsAt w q l ∧ (0 < l.length → ∀ a, q = some a → Q a.block) ∧ ∀ x ∈ l, DatAt w x ∧ DatIn Q x
theorem FIn.rd {w : World} {Q : Nat → Prop} {q : Option Addr} {n : Nat} {L : List Fil} (h : FIn w Q q n L) : FRd w q n L := by
  obtain ⟨l, h1, h2, h3, h4, h5⟩ := h
  exact ⟨l, h1, h2, h3, fun x hx => (h5 x hx).1⟩
theorem FRd.all {w : World} {q : Option Addr} {n : Nat} {L : List Fil} (h : FRd w q n L) : FIn w (fun i => i < w.heap.size) q n L := by
  obtain ⟨l, h1, h2, h3, h4⟩ := h
  refine ⟨l, h1, h2, h3, fun h0 a e => ?_, fun x hx => ⟨h4 x hx, fun h0 a e => (h4 x hx).by_.lt (by rwa [ba_size]) a e⟩⟩
  obtain ⟨x, e', m⟩ := h3 0 h0
  rw [e] at e'
  cases e'
  have := cell_lt m.c0
  simpa [add_block] using this
theorem FIn.kp {S Q Q' : Nat → Prop} {w w' : World} {q : Option Addr} {n : Nat} {L : List Fil} (h : FIn w Q q n L) (k : Kp S w w') (hs : ∀ i, i < w.heap.size → Q i → ¬ S i ∧ Q' i) : FIn w' Q' q n L := by
  obtain ⟨l, h1, h2, h3, h4, h5⟩ := h
  have hlt : ∀ a, q = some a → 0 < l.length → a.block < w.heap.size := fun a e h0 => by
    obtain ⟨x, e', m⟩ := h3 0 h0
    rw [e] at e'
    cases e'
    have := cell_lt m.c0
    simpa [add_block] using this
  exact ⟨l, h1, h2, h3.kp k fun x e h0 => (hs _ (hlt x e h0) (h4 h0 x e)).1, fun h0 a e => (hs _ (hlt a e h0) (h4 h0 a e)).2, fun x hx => ⟨(h5 x hx).1.kp (h5 x hx).2 k fun i hl hi => (hs i hl hi).1, (h5 x hx).2.mono (h5 x hx).1 fun i hl hi => (hs i hl hi).2⟩⟩
theorem FIn.kp0 {Q : Nat → Prop} {w w' : World} {q : Option Addr} {n : Nat} {L : List Fil} (h : FIn w Q q n L) (k : Kp none_ w w') : FIn w' Q q n L := h.kp k fun i _ hi => ⟨id, hi⟩
theorem FIn.mono {Q Q' : Nat → Prop} {w : World} {q : Option Addr} {n : Nat} {L : List Fil} (h : FIn w Q q n L) (hs : ∀ i, i < w.heap.size → Q i → Q' i) : FIn w Q' q n L := h.kp (Kp.refl none_ w) fun i hl hi => ⟨id, hs i hl hi⟩
theorem FIn.nil (w : World) (Q : Nat → Prop) (q : Option Addr) : FIn w Q q 0 [] := ⟨[], rfl, rfl, fun i hi => by simp at hi, fun h => by simp at h, fun x hx => by cases hx⟩
theorem putGo_map (b : Fx) : ∀ (l o : List Fx) (t : Bool), (l.map Fx.fil).foldl (putStep Prod.fst b.s b.fil) (o.map Fx.fil, t) = ((l.foldl (putStep kF b.s b) (o, t)).1.map Fx.fil, (l.foldl (putStep kF b.s b) (o, t)).2)
  | [], o, t => rfl
  | x :: r, o, t => by
    rw [List.map_cons, List.foldl_cons, List.foldl_cons]
    have e : putStep Prod.fst b.s b.fil (o.map Fx.fil, t) x.fil = ((putStep kF b.s b (o, t) x).1.map Fx.fil, (putStep kF b.s b (o, t) x).2) := by
      unfold putStep
      simp only [Fx.fil]
      split <;> split <;> simp
    rw [e, putGo_map b r]
theorem withK_map (l : List Fx) (b : Fx) : (withK kF l b.s b).map Fx.fil = withK Prod.fst (l.map Fx.fil) b.s (b.s, b.d) := by
  unfold withK putGo
  have := putGo_map b l [] false
  simp only [List.map_nil] at this
  rw [show (b.s, b.d) = b.fil from rfl, this]
  simp only
  split <;> simp
theorem withK_mem {l : List Fx} (ha : Asc kF l) {s : List UInt8} {b x : Fx} (hx : x ∈ withK kF l s b) : x = b ∨ x ∈ l := by
  rw [withK_eq ha] at hx
  rcases List.mem_append.1 hx with h | h
  · exact .inr (List.mem_of_mem_take h)
  · rcases List.mem_cons.1 h with h | h
    · exact .inl h
    · exact .inr (List.mem_of_mem_drop h)
theorem c92 {w : World} {Q : Nat → Prop} {q : Option Addr} {c n : Nat} {L : List Fil} (h : FIn w Q q n L) (hL : L.length ≤ 1000000) (s : ByteArray) : Rets Tryd.prog 92 #[.slice q n c, .string s] w fun v w' =>
    ∃ q' n' c', v = .slice q' n' c' ∧ FIn w' (fun i => Q i ∨ w.heap.size ≤ i) q' n' (withoutK Prod.fst L (bytesL s)) ∧ Kp none_ w w' := by
  obtain ⟨l, rfl, rfl, h, _, hd⟩ := h
  have hl : l.length ≤ 1000000 := by simpa using hL
  refine ent [_, _] Tryd.func92 ((vcTryd92 _ _ _ _ w _).mpr ?_)
  unfold VCTryd92
  refine ⟨fun i q n c w' => ∃ j : Nat, i = j ∧ j ≤ l.length ∧ n = (withoutK kF (l.take j) (bytesL s)).length ∧ OwnRow w' (fun i => w.heap.size ≤ i) 107 2 (.slice q n c) n (fxsC (withoutK kF (l.take j) (bytesL s))) ∧ Kp (fun i => w.heap.size ≤ i) w w', fun i _ _ _ _ => (l.length - i).toNat, ⟨0, rfl, by omega, by simp [withoutK], by simpa [withoutK, fxsC] using OwnRow.nil _ _ _ _, Kp.refl _ _⟩, ?_⟩
  rintro i q3 n4 c5 w6 ⟨j, rfl, hj, rfl, r6, k6⟩
  have hle : (withoutK kF (l.take j) (bytesL s)).length ≤ (l.take j).length := List.length_filter_le _ _
  have hlt : (l.take j).length ≤ j := by rw [List.length_take]; omega
  refine bif_dec (fun h1 => ⟨⟨by omega, by omega⟩, fx_at (h.far k6 (Nat.le_refl _)) (by omega) fun x _ m => ⟨_, m.c0, ?_⟩⟩) (fun h1 => ⟨_, rfl, q3, _, c5, rfl, ?_, k6.narrow (Nat.le_refl _)⟩)
  · have hjl : j < l.length := by omega
    have hst := withoutK_step (k := kF) (s := bytesL s) hjl
    rw [beq_ba]
    refine bif_not (fun hh => ?_) (fun hh => wr64 (by omega) ⟨⟨j + 1, by omega, by omega, ?_, ?_, k6⟩, by first | omega | (dsimp only; omega)⟩)
    · rw [if_neg (by simpa using hh)] at hst
      refine ⟨⟨by omega, by omega⟩, fx_at (h.far k6 (Nat.le_refl _)) hjl fun y _ my => ⟨_, _, _, _, ⟨my.c0, my.c1, trivial⟩, ?_⟩⟩
      refine push_fx l[j] r6 rfl (by omega) fun q' c' w' r' k1 k2 => ⟨_, _, _, rfl, k2.keeps0, wr64 (by omega) ⟨⟨j + 1, by omega, by omega, by rw [hst]; simp, ?_, k6.trans k1⟩, by first | omega | (dsimp only; omega)⟩⟩
      rw [hst]
      have hz := k6.size
      exact r'.mono fun i hi _ => hi.elim id fun hf => Nat.le_trans hz hf
    · rw [if_pos (by simpa using hh)] at hst
      rw [hst]
    · rw [if_pos (by simpa using hh)] at hst
      rw [hst]; exact r6
  · rw [List.take_of_length_le (by omega)] at *
    have k7 := k6.narrow (Nat.le_refl _)
    refine ⟨withoutK kF l (bytesL s), ?_, rfl, fxs_of r6, fun h0 a e => ?_, fun x hx => ?_⟩
    · unfold withoutK
      rw [List.filter_map]
      rfl
    · obtain ⟨g, _, e', _, hg, _⟩ := r6.parts h0
      rw [e] at e'
      cases e'
      exact .inr hg
    · have hx : x ∈ l := (List.mem_filter.1 hx).1
      exact ⟨(hd x hx).1.kp0 k7, fun h0 a e => .inl ((hd x hx).2 h0 a e)⟩
theorem c91 {w0 : World} {Q : Nat → Prop} {q : Option Addr} {c n : Nat} {L : List Fil} (h : FIn w0 Q q n L) (hL : L.length ≤ 1000000) (ha : Asc Prod.fst L) (s d : List UInt8) (hdl : d.length ≤ 1000000000) : Rets Tryd.prog 91 #[.slice q n c, .string (ba s), .string (ba d)] w0 fun v w' =>
    ∃ q' n' c', v = .slice q' n' c' ∧ FIn w' (fun i => Q i ∨ w0.heap.size ≤ i) q' n' (withK Prod.fst L s (s, d)) ∧ Kp none_ w0 w' := by
  obtain ⟨l, rfl, rfl, h0, _, hd⟩ := h
  have hl : l.length ≤ 1000000 := by simpa using hL
  refine ent [_, _, _] Tryd.func91 ((vcTryd91 _ _ _ _ _ w0 _).mpr ?_)
  unfold VCTryd91
  refine buf_conv (E := w0.heap.size) Tryd.underlying9 und27 Tryd.underlying5 (ba d) (Nat.le_refl _) (by rw [ba_size]; simp only [maxLen]; omega) fun v w b1 k1 => ?_
  obtain ⟨qd, cd, rfl, hd1, hd2⟩ := b1.slice
  have h := h0.kp0 k1
  have ed : (ba d).data.toList = d := ba_list d
  simp only [ed] at *
  obtain ⟨b, hb⟩ : ∃ b : Fx, b = ⟨s, d, qd, cd⟩ := ⟨_, rfl⟩
  have hbd : DatAt w b := by subst hb; exact ⟨b1.bytes, hd1, hd2⟩
  have hbi : DatIn (fun i => w0.heap.size ≤ i) b := fun h0 a e => by
    subst hb
    rcases b1 with ⟨_, h0'⟩ | ⟨g, cap, cur, fr, e', hg, _⟩
    · have h0 : 0 < d.length := h0
      rw [h0'] at h0; simp at h0
    · have e : qd = some a := e
      rw [e] at e'
      cases e'
      exact hg
  have e1 : Value.string (ba s) = .string (ba b.s) := by rw [hb]
  have e2 : Value.slice qd d.length cd = .slice b.q b.d.length b.c := by rw [hb]
  have e3 : ba s = ba b.s := by rw [hb]
  have e4 : s = b.s := by rw [hb]
  have e5 : d = b.d := by rw [hb]
  obtain ⟨k0, z0, _⟩ := laid2 (w := w) (ba s) (.slice qd d.length cd)
  refine ⟨_, _, _, rfl, k1.keeps0, ?_⟩
  have e6 : qd = b.q := by rw [hb]
  have e7 : cd = b.c := by rw [hb]
  clear hb
  subst e4 e5 e6 e7
  refine ⟨fun i q n c t w' => ∃ (j : Nat) (o : List Fx), i = j ∧ j ≤ l.length ∧ putGo kF b.s b (l.take j) = (o, t) ∧ n = o.length ∧ o.length ≤ 2 * j ∧ OwnRow w' (fun i => w.heap.size < i) 107 2 (.slice q n c) o.length (fxsC o) ∧ Kp (fun i => w.heap.size ≤ i) w w' ∧ w.heap.size < w'.heap.size, fun i _ _ _ _ _ => (l.length - i).toNat,
    ⟨0, [], rfl, by omega, by simp [putGo], rfl, by simp, OwnRow.nil _ _ _ _, k0.wide, z0⟩, ?_⟩
  rintro i q3 n4 c5 t6 w7 ⟨j, o, rfl, hj, hgo, rfl, ho, r7, k7, z7⟩ _
  have nb : ¬ (w.heap.size < w.heap.size) := Nat.lt_irrefl _
  have wide : ∀ {w8 w9 : World}, Kp (fun i => w.heap.size < i) w8 w9 → Kp (fun i => w.heap.size ≤ i) w8 w9 := fun k => k.mono fun i _ h => Nat.le_of_lt h
  refine bif_dec (fun h1 => ?_) (fun h1 => ?_)
  · have hjl : j < l.length := by omega
    have hst := putGo_step (k := kF) (s := b.s) (m := b) hjl
    rw [hgo] at hst
    -- the element that is there is put, or not
    have tail : ∀ (o' : List Fx) (t' : Bool) (q' : Option Addr) (c' : Nat) (w' : World), o'.length ≤ 2 * j + 1 → OwnRow w' (fun i => w.heap.size < i) 107 2 (.slice q' o'.length c') o'.length (fxsC o') → Kp (fun i => w.heap.size ≤ i) w w' → w.heap.size < w'.heap.size →
        putGo kF b.s b (l.take (j + 1)) = (if b.s = l[j].s then o' else o' ++ [l[j]], t') →
        ∀ {K : Option Addr → Nat → Nat → Bool → World → Prop}, (∀ (q : Option Addr) (n c : Nat) (w2 : World), (∃ (j2 : Nat) (o : List Fx), ((j + 1 : Nat) : Int) = j2 ∧ j2 ≤ l.length ∧ putGo kF b.s b (l.take j2) = (o, t') ∧ n = o.length ∧ o.length ≤ 2 * j2 ∧ OwnRow w2 (fun i => w.heap.size < i) 107 2 (.slice q n c) o.length (fxsC o) ∧ Kp (fun i => w.heap.size ≤ i) w w2 ∧ w.heap.size < w2.heap.size) → K q n c t' w2) →
        (b.s = l[j].s → K q' o'.length c' t' w') ∧ (b.s ≠ l[j].s → ∀ {K2 : Value → World → Prop}, (∀ q2 c2 w2, Keeps (w'.alloc (.cells #[.string (ba l[j].s), .slice l[j].q l[j].d.length l[j].c] 107)) w2 [w.heap.size] → K q2 (o'.length + 1) c2 t' w2 → K2 (.slice q2 (o'.length + 1) c2) w2) →
          Runs Tryd.prog (Builtin.append_ #[105, 105] 105 #[.slice q' o'.length c', .slice (some ⟨w'.heap.size, 0, none⟩) 1 1]) (w'.alloc (.cells #[.string (ba l[j].s), .slice l[j].q l[j].d.length l[j].c] 107)) K2) := by
      intro o' t' q' c' w' hlen r' k' z' hgo' K hK
      refine ⟨fun e => hK _ _ _ _ ⟨j + 1, o', rfl, by omega, by rw [hgo', if_pos e], rfl, by omega, r', k', z'⟩, fun e K2 hK2 => push_fx l[j] r' rfl (by omega) fun q2 c2 w2 r2 k2 k3 => hK2 q2 c2 w2 (kso k3 nb (by rw [alloc_size]; omega)) (hK _ _ _ _ ⟨j + 1, o' ++ [l[j]], rfl, by omega, by rw [hgo', if_neg e], by simp, by simp; omega, ?_, k'.trans (wide k2), Nat.lt_of_lt_of_le z' k2.size⟩)⟩
      have := r2.mono (own' := fun i => w.heap.size < i) fun i hi _ => hi.elim id fun hf => Nat.lt_of_lt_of_le z' hf
      simpa using this
    cases t6 with
    | false =>
      refine ⟨⟨by omega, by omega⟩, fx_at (h.far k7 (Nat.le_refl _)) hjl fun x _ mx => ⟨_, mx.c0, ?_⟩⟩
      rw [toList_ba, toList_ba]
      refine bif_b (fun hle => ?_) (fun hgt => ?_)
      · have e1 : putGo kF b.s b (l.take (j + 1)) = (if b.s = l[j].s then o ++ [b] else (o ++ [b]) ++ [l[j]], true) := by
          rw [hst]; unfold putStep; simp only [hle, and_self, if_true, Bool.false_or]
        refine push_fx b r7 rfl (by omega) fun q8 c8 w8 r8 k8 k8' => ⟨_, _, _, rfl, kso k8' nb (by rw [alloc_size]; omega), ⟨by omega, by omega⟩, ?_⟩
        have K8 : Kp (fun i => w.heap.size ≤ i) w w8 := k7.trans (wide k8)
        have z8 : w.heap.size < w8.heap.size := Nat.lt_of_lt_of_le z7 k8.size
        have R8 : OwnRow w8 (fun i => w.heap.size < i) 107 2 (.slice q8 (o ++ [b]).length c8) (o ++ [b]).length (fxsC (o ++ [b])) := by
          have := r8.mono (own' := fun i => w.heap.size < i) fun i hi _ => hi.elim id fun hf => Nat.lt_of_lt_of_le z7 hf
          simpa using this
        have el : (o ++ [b]).length = o.length + 1 := by simp
        refine fx_at (h.far K8 (Nat.le_refl _)) hjl fun y _ my => ⟨_, my.c0, ?_⟩
        rw [toList_ba]
        refine bif_not (fun hne => ⟨⟨by omega, by omega⟩, fx_at (h.far K8 (Nat.le_refl _)) hjl fun z _ mz => ⟨_, _, _, _, ⟨mz.c0, mz.c1, trivial⟩, ?_⟩⟩) (fun heq => wr64 (by omega) ⟨rfl, ?_, by first | omega | (dsimp only; omega)⟩)
        · rw [← el]
          refine (tail (o ++ [b]) true q8 c8 w8 (by simp; omega) R8 K8 z8 e1 (K := fun q n c t w2 => ∃ (j2 : Nat) (o : List Fx), ((j + 1 : Nat) : Int) = j2 ∧ j2 ≤ l.length ∧ putGo kF b.s b (l.take j2) = (o, t) ∧ n = o.length ∧ o.length ≤ 2 * j2 ∧ OwnRow w2 (fun i => w.heap.size < i) 107 2 (.slice q n c) o.length (fxsC o) ∧ Kp (fun i => w.heap.size ≤ i) w w2 ∧ w.heap.size < w2.heap.size) fun _ _ _ _ hh => hh).2 (fun e => absurd e.symm (by simpa using hne)) fun q2 c2 w2 kp hk => ⟨_, _, _, rfl, kp, wr64 (by omega) ⟨rfl, hk, by first | omega | (dsimp only; omega)⟩⟩
        · rw [← el]
          exact (tail (o ++ [b]) true q8 c8 w8 (by simp; omega) R8 K8 z8 e1 (K := fun q n c t w2 => ∃ (j2 : Nat) (o : List Fx), ((j + 1 : Nat) : Int) = j2 ∧ j2 ≤ l.length ∧ putGo kF b.s b (l.take j2) = (o, t) ∧ n = o.length ∧ o.length ≤ 2 * j2 ∧ OwnRow w2 (fun i => w.heap.size < i) 107 2 (.slice q n c) o.length (fxsC o) ∧ Kp (fun i => w.heap.size ≤ i) w w2 ∧ w.heap.size < w2.heap.size) fun _ _ _ _ hh => hh).1 (Eq.symm (by simpa using heq))
      · have hne0 : b.s ≠ l[j].s := fun e => by
          rw [e] at hgt; simp at hgt
        have e1 : putGo kF b.s b (l.take (j + 1)) = (if b.s = l[j].s then o else o ++ [l[j]], false) := by
          rw [hst]; unfold putStep; simp only [hgt, Bool.false_or]; simp
        have K8 : Kp (fun i => w.heap.size ≤ i) w w7 := k7
        have R8 : OwnRow w7 (fun i => w.heap.size < i) 107 2 (.slice q3 o.length c5) o.length (fxsC o) := r7
        refine ⟨⟨by omega, by omega⟩, fx_at (h.far K8 (Nat.le_refl _)) hjl fun y _ my => ⟨_, my.c0, ?_⟩⟩
        rw [toList_ba]
        refine bif_not (fun hne => ⟨⟨by omega, by omega⟩, fx_at (h.far K8 (Nat.le_refl _)) hjl fun z _ mz => ⟨_, _, _, _, ⟨mz.c0, mz.c1, trivial⟩, ?_⟩⟩) (fun heq => absurd (Eq.symm (by simpa using heq)) hne0)
        refine (tail o false q3 c5 w7 (by omega) R8 K8 z7 e1 (K := fun q n c t w2 => ∃ (j2 : Nat) (o : List Fx), ((j + 1 : Nat) : Int) = j2 ∧ j2 ≤ l.length ∧ putGo kF b.s b (l.take j2) = (o, t) ∧ n = o.length ∧ o.length ≤ 2 * j2 ∧ OwnRow w2 (fun i => w.heap.size < i) 107 2 (.slice q n c) o.length (fxsC o) ∧ Kp (fun i => w.heap.size ≤ i) w w2 ∧ w.heap.size < w2.heap.size) fun _ _ _ _ hh => hh).2 hne0 fun q2 c2 w2 kp hk => ⟨_, _, _, rfl, kp, wr64 (by omega) ⟨rfl, hk, by first | omega | (dsimp only; omega)⟩⟩
    | true =>
      have e1 : putGo kF b.s b (l.take (j + 1)) = (if b.s = l[j].s then o else o ++ [l[j]], true) := by
        rw [hst]; unfold putStep; simp
      have K8 : Kp (fun i => w.heap.size ≤ i) w w7 := k7
      have R8 : OwnRow w7 (fun i => w.heap.size < i) 107 2 (.slice q3 o.length c5) o.length (fxsC o) := r7
      refine ⟨⟨by omega, by omega⟩, fx_at (h.far K8 (Nat.le_refl _)) hjl fun y _ my => ⟨_, my.c0, ?_⟩⟩
      rw [toList_ba, toList_ba]
      refine bif_not (fun hne => ⟨⟨by omega, by omega⟩, fx_at (h.far K8 (Nat.le_refl _)) hjl fun z _ mz => ⟨_, _, _, _, ⟨mz.c0, mz.c1, trivial⟩, ?_⟩⟩) (fun heq => wr64 (by omega) ⟨rfl, ?_, by first | omega | (dsimp only; omega)⟩)
      · refine (tail o true q3 c5 w7 (by omega) R8 K8 z7 e1 (K := fun q n c t w2 => ∃ (j2 : Nat) (o : List Fx), ((j + 1 : Nat) : Int) = j2 ∧ j2 ≤ l.length ∧ putGo kF b.s b (l.take j2) = (o, t) ∧ n = o.length ∧ o.length ≤ 2 * j2 ∧ OwnRow w2 (fun i => w.heap.size < i) 107 2 (.slice q n c) o.length (fxsC o) ∧ Kp (fun i => w.heap.size ≤ i) w w2 ∧ w.heap.size < w2.heap.size) fun _ _ _ _ hh => hh).2 (fun e => absurd e.symm (by simpa using hne)) fun q2 c2 w2 kp hk => ⟨_, _, _, rfl, kp, wr64 (by omega) ⟨rfl, hk, by first | omega | (dsimp only; omega)⟩⟩
      · exact (tail o true q3 c5 w7 (by omega) R8 K8 z7 e1 (K := fun q n c t w2 => ∃ (j2 : Nat) (o : List Fx), ((j + 1 : Nat) : Int) = j2 ∧ j2 ≤ l.length ∧ putGo kF b.s b (l.take j2) = (o, t) ∧ n = o.length ∧ o.length ≤ 2 * j2 ∧ OwnRow w2 (fun i => w.heap.size < i) 107 2 (.slice q n c) o.length (fxsC o) ∧ Kp (fun i => w.heap.size ≤ i) w w2 ∧ w.heap.size < w2.heap.size) fun _ _ _ _ hh => hh).1 (Eq.symm (by simpa using heq))
  · rw [List.take_of_length_le (by omega)] at hgo
    have hw : withK kF l b.s b = if t6 = true then o else o ++ [b] := by
      unfold withK; rw [hgo]
    have endW : ∀ {q8 : Option Addr} {c8 : Nat} {w8 : World}, OwnRow w8 (fun i => w.heap.size < i) 107 2 (.slice q8 (withK kF l b.s b).length c8) (withK kF l b.s b).length (fxsC (withK kF l b.s b)) → Kp (fun i => w.heap.size ≤ i) w w8 → FIn w8 (fun i => Q i ∨ w0.heap.size ≤ i) q8 (withK kF l b.s b).length (withK Prod.fst (l.map Fx.fil) b.s (b.s, b.d)) ∧ Kp none_ w0 w8 := fun {q8 c8 w8} r8 k8 => by
      have k8 := k8.narrow (Nat.le_refl _)
      refine ⟨⟨withK kF l b.s b, withK_map l b, rfl, fxs_of r8, fun h0 a e => ?_, fun x hx => ?_⟩, k1.trans k8⟩
      · obtain ⟨g, _, e', _, hg, _⟩ := r8.parts h0
        rw [e] at e'
        cases e'
        have hg : w.heap.size < g := hg
        have := k1.size
        exact .inr (by show w0.heap.size ≤ g; omega)
      · rcases withK_mem (asc_map.1 ha) hx with rfl | hx
        · exact ⟨hbd.kp0 k8, fun h0 a e => .inr (hbi h0 a e)⟩
        · obtain ⟨da, di⟩ := hd x hx
          exact ⟨(da.kp0 k1).kp0 k8, fun h0 a e => .inl (di h0 a e)⟩
    cases t6 with
    | false =>
      rw [if_neg (by decide)] at hw
      refine push_fx b r7 rfl (by omega) fun q8 c8 w8 r8 k8 k8' => ⟨_, _, _, rfl, kso k8' nb (by rw [alloc_size]; omega), fun _ => ⟨_, rfl, q8, _, c8, by rw [show o.length + 1 = (withK kF l b.s b).length by rw [hw]; simp], endW (c8 := c8) ?_ (k7.trans (wide k8))⟩⟩
      rw [hw]
      have := r8.mono (own' := fun i => w.heap.size < i) fun i hi _ => hi.elim id fun hf => Nat.lt_of_lt_of_le z7 hf
      simpa using this
    | true =>
      rw [if_pos rfl] at hw
      refine fun _ => ⟨_, rfl, q3, _, c5, by rw [show o.length = (withK kF l b.s b).length by rw [hw]], endW (c8 := c5) ?_ k7⟩
      rw [hw]
      exact r7
end Go.Proofs.YtbpknjldphckgaaDoor
