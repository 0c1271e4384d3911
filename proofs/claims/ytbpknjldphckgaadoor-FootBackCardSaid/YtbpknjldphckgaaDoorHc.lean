/- A foot, taken; a whole directory, written and read. -/
import Derived.Test.YtbpknjldphckgaaDoorHa
namespace Go.Proofs.YtbpknjldphckgaaDoor
open Go Go.SX Go.SX.Crc Go.Proofs Go.Lib
set_option maxRecDepth 100000
set_option linter.unusedVariables false
set_option linter.unusedSimpArgs false
def setF (w : World) (g : Nat) (a b c : Value) : World := ((w.setCell ⟨g, 0, none⟩ a).setCell ⟨g, 1, none⟩ b).setCell ⟨g, 2, none⟩ c
theorem setF_def (w : World) (g : Nat) (a b c : Value) : ((w.setCell ⟨g, 0, none⟩ a).setCell ⟨g, 1, none⟩ b).setCell ⟨g, 2, none⟩ c = setF w g a b c := rfl
theorem big_setF {w : World} {g : Nat} {e : TypeId} {x y z a b c : Value} (h : Big w g e [x, y, z]) : Big (setF w g a b c) g e [a, b, c] := ((h.set 0 a).set 1 b).set 2 c
theorem kp_setF (w : World) (g : Nat) (a b c : Value) : Kp (one_ g) w (setF w g a b c) :=
  (((Kp.refl (one_ g) w).setCell (x := ⟨g, 0, none⟩) a (.inl rfl)).setCell (x := ⟨g, 1, none⟩) b (.inl rfl)).setCell (x := ⟨g, 2, none⟩) c (.inl rfl)
theorem numR_at {m : List UInt8} {s : Nat} (h : s + 4 ≤ m.length) : numR m 4 (s, false) = (numAt m s 4, s + 4, false) := by
  unfold numR
  rw [if_neg (by simp), width4, if_pos h]
theorem bytR_at {m : List UInt8} {n s : Nat} (h : s + n ≤ m.length) : bytR m n (s, false) = ((m.drop s).take n, s + n, false) := by
  unfold bytR
  rw [if_neg (by simp), if_neg (by simp only; omega), Int.toNat_natCast]
/-- The foot that twenty bytes are. -/
def footG (m : List UInt8) : (Int × Int × Int) × Int :=
  if m.take 4 ≠ footM then ((0, 0, 0), 3) else
  if numAt m 16 4 ≠ (sumL (m.take 16)).toNat then ((0, 0, 0), 4) else
  if okF (numAt m 4 4) (numAt m 8 4) = false then ((0, 0, 0), 3) else (((numAt m 4 4 : Int), (numAt m 8 4 : Int), (numAt m 12 4 : Int)), 0)
/-- The foot that bytes end with. -/
def footF (l : List UInt8) : (Int × Int × Int) × Int :=
  if l.length < 20 then ((0, 0, 0), 2) else footG (l.drop (l.length - 20))
theorem c122 {w : World} {t : Addr} (ht : Tab w t) {q : Option Addr} {c : Nat} {l : List UInt8} (hb : BytesAt w q (ba l)) (hc : l.length ≤ c) (hl : l.length ≤ 1000000) :
    Rets Tryd.prog 122 #[.pointer (some t), .slice q l.length c] w fun v w' => v = .tuple #[ftV (footF l).1.1 (footF l).1.2.1 (footF l).1.2.2, .int .i64 (footF l).2] ∧ Kp none_ w w' := by
  refine ent [_, _] Tryd.func122 ((vcTryd122 _ _ _ _ w _).mpr ?_)
  unfold VCTryd122
  simp only [setF_def]
  generalize hF : footF l = F
  have ka : Kp none_ w (w.alloc (.cells #[.int .i64 0, .int .i64 0, .int .u32 0] 68)) := (Kp.refl none_ w).alloc1 _
  have B0 : Big (w.alloc (.cells #[.int .i64 0, .int .i64 0, .int .u32 0] 68)) w.heap.size 68 [.int .i64 0, .int .i64 0, .int .u32 0] := Big.new w _ 68
  generalize w.alloc (.cells #[.int .i64 0, .int .i64 0, .int .u32 0] 68) = w0 at *
  have z0 : w.heap.size < w0.heap.size := B0.lt
  have fin : ∀ {w' : World} {a b d : Value}, Kp (fun i => w.heap.size ≤ i) w w' → Kp none_ w (setF w' w.heap.size a b d) := fun k => (k.trans (kpE (kp_setF _ _ _ _ _) (Nat.le_refl _))).narrow (Nat.le_refl _)
  refine bif_dec (fun h _ => ⟨_, rfl, by rw [← hF]; unfold footF; rw [if_pos (by omega)]; rfl, fin ka.wide⟩) (fun h => wr64 (by omega) ⟨⟨by omega, by omega⟩, fun _ => ?_⟩)
  have hF1 : F = footG (l.drop (l.length - 20)) := by rw [← hF]; unfold footF; rw [if_neg (by omega)]
  clear hF
  have eA : ((l.length : Int) - 20).toNat = l.length - 20 := by omega
  rw [eA]
  generalize hA : l.length - 20 = A at *
  have hdl : (l.drop A).length = l.length - A := List.length_drop
  have hbm := (bytes_from hb (a := A) (by omega) hc).kp0 ka
  have h20 : (l.drop A).length = 20 := by omega
  have hcap : (l.drop A).length ≤ c - A := by omega
  rw [← hdl]
  have hb16 : BytesAt w (cutA (cutA q c A 1) (c - A) 0 1) (ba ((l.drop A).take 16)) := by
    have := bytes_drop (bytes_from hb (a := A) (by omega) hc) (a := 0) (k := 16) (by omega) hcap
    rwa [List.drop_zero] at this
  have e16 : ((l.drop A).take 16).length = 16 := by rw [List.length_take]; omega
  generalize l.drop A = m at *
  refine (c109 hbm hcap).mono ?_
  rintro v w2 ⟨rfl, k2, d2⟩
  generalize hr : w0.heap.size = r at *
  have K2 : Kp (fun i => w.heap.size ≤ i) w w2 := ka.wide.trans k2.wide
  have hr2 := d2.lt
  have n0 : w.heap.size ≠ r := by omega
  have g2 : w.heap.size < w2.heap.size := by omega
  have hl' : m.length ≤ 1000000000 := by omega
  have toE : ∀ {a b : World}, Kp (one_ r) a b → Kp (fun i => w.heap.size ≤ i) a b := fun k => kpE k (by omega)
  refine ⟨_, rfl, k2.k0 (by omega), fun _ => (c110 d2 hl' 4 (by omega)).mono ?_⟩
  rw [show bytR m 4 (0, false) = (m.take 4, 4, false) from by
    have := bytR_at (m := m) (n := 4) (s := 0) (by omega)
    rw [List.drop_zero] at this
    exact this]
  rintro v w3 ⟨q3, c3, rfl, _, b3, k3, d3⟩
  have K3 := K2.trans (toE k3)
  have g3 := Nat.lt_of_lt_of_le g2 k3.size
  refine ⟨_, _, _, rfl, ks1 k3 n0 g2, ba (m.take 4), ba_size _, b3, fun _ => (c111 d3 hl' 4).mono ?_⟩
  rw [show numR m 4 (4, false) = (numAt m 4 4, 8, false) from numR_at (by omega)]
  rintro v w4 ⟨rfl, k4, d4⟩
  have K4 := K3.trans (toE k4)
  have g4 := Nat.lt_of_lt_of_le g3 k4.size
  have n4 := num_lt m 4
  refine ⟨_, rfl, ks1 k4 n0 g3, wr64 (by omega) fun _ => (c111 d4 hl' 4).mono ?_⟩
  rw [show numR m 4 (8, false) = (numAt m 8 4, 12, false) from numR_at (by omega)]
  rintro v w5 ⟨rfl, k5, d5⟩
  have K5 := K4.trans (toE k5)
  have g5 := Nat.lt_of_lt_of_le g4 k5.size
  have n8 := num_lt m 8
  refine ⟨_, rfl, ks1 k5 n0 g4, wr64 (by omega) fun _ => (c111 d5 hl' 4).mono ?_⟩
  rw [show numR m 4 (12, false) = (numAt m 12 4, 16, false) from numR_at (by omega)]
  rintro v w6 ⟨rfl, k6, d6⟩
  have K6 := K5.trans (toE k6)
  have g6 := Nat.lt_of_lt_of_le g5 k6.size
  have r6 := d6.lt
  refine ⟨_, rfl, ks1 k6 n0 g5, ?_⟩
  have kb : Kp none_ w6 (w6.alloc (.cells #[.int .i64 0, .int .i64 0, .int .u32 0] 68)) := (Kp.refl none_ w6).alloc1 _
  have C0 : Big (w6.alloc (.cells #[.int .i64 0, .int .i64 0, .int .u32 0] 68)) w6.heap.size 68 [.int .i64 0, .int .i64 0, .int .u32 0] := Big.new w6 _ 68
  generalize w6.alloc (.cells #[.int .i64 0, .int .i64 0, .int .u32 0] 68) = w7 at *
  have ks := kp_setF w7 w6.heap.size (.int .i64 (numAt m 4 4 : Nat)) (.int .i64 (numAt m 8 4 : Nat)) (.int .u32 (numAt m 12 4 : Nat))
  have K8 := (K6.trans kb.wide).trans (kpE ks (Nat.le_of_lt g6))
  have z8 : w6.heap.size < (setF w7 w6.heap.size (.int .i64 (numAt m 4 4 : Nat)) (.int .i64 (numAt m 8 4 : Nat)) (.int .u32 (numAt m 12 4 : Nat))).heap.size := Nat.lt_of_lt_of_le C0.lt ks.size
  have d8 := (d6.kp0 kb).above (ks.mono fun i _ h => by have h : i = w6.heap.size := h; show r < i; omega)
  generalize setF w7 w6.heap.size (.int .i64 (numAt m 4 4 : Nat)) (.int .i64 (numAt m 8 4 : Nat)) (.int .u32 (numAt m 12 4 : Nat)) = w8 at *
  unfold footG at hF1
  refine bif_not (fun hbad _ => ⟨_, rfl, ?_, fin K8⟩) (fun hgood => ⟨⟨by omega, by omega⟩, fun _ => ?_⟩)
  · rw [beq_ba] at hbad
    rw [hF1, if_pos (fun h => by rw [h] at hbad; exact absurd hbad (by decide))]
    rfl
  have hmark : m.take 4 = footM := by
    rw [beq_ba] at hgood
    exact (by simpa using hgood : m.take 4 = bytesL ({ data := #[70, 79, 79, 84] } : ByteArray)).trans rfl
  rw [if_neg (fun h => h hmark)] at hF1
  have kd : Kp none_ w8 w8.drew := Kp.drew1
  have d9 := d8.kp0 kd
  have K9 := K8.trans kd.wide
  have z9 : w6.heap.size < w8.drew.heap.size := z8
  refine (c111 d9 hl' 4).mono ?_
  rw [show numR m 4 (16, false) = (numAt m 16 4, 20, false) from numR_at (by omega)]
  rintro v w10 ⟨rfl, k10, d10⟩
  have K10 := K9.trans (toE k10)
  have g10 := Nat.lt_of_lt_of_le z9 k10.size
  refine ⟨_, rfl, ks2 k10 n0 (by omega) (by omega) z9, fun _ => ?_⟩
  have h106 := c106 (ht.far K10 (Nat.le_refl _)) (c := c - A - 0) (hb16.far K10 (Nat.le_refl _)) (by omega)
  rw [e16] at h106
  refine h106.mono ?_
  rintro v wx ⟨rfl, e⟩
  obtain rfl := e.symm
  have two : ∀ b ∈ [w.heap.size, w6.heap.size], b < w10.heap.size ∧ ¬ none_ b := fun b hb => by
    simp only [List.mem_cons, List.not_mem_nil, or_false] at hb
    rcases hb with rfl | rfl
    · exact ⟨by omega, id⟩
    · exact ⟨g10, id⟩
  refine ⟨_, rfl, (Kp.refl none_ _).keeps two, bif_ne (fun hne _ => ⟨_, rfl, ?_, fin K10⟩) (fun heq _ => (c59 _ _ _ w10).mono ?_)⟩
  · rw [if_pos (fun h => hne (by rw [h]))] at hF1
    rw [hF1]; rfl
  rw [if_neg (fun h => h (by exact_mod_cast heq))] at hF1
  rintro v w11 ⟨rfl, k11⟩
  have K11 := K10.trans k11.wide
  refine ⟨_, rfl, k11.keeps two, bif_not (fun hh _ => ⟨_, rfl, ?_, fin K11⟩) (fun hh _ => ⟨_, rfl, ?_, fin K11⟩)⟩
  · rw [if_pos hh] at hF1
    rw [hF1]; rfl
  · rw [if_neg (by rw [hh]; decide)] at hF1
    rw [hF1]; rfl
end Go.Proofs.YtbpknjldphckgaaDoor

/- A whole directory, written and read. -/
namespace Go.Proofs.YtbpknjldphckgaaDoor
open Go Go.SX Go.SX.Crc Go.Proofs Go.Lib
set_option maxRecDepth 100000
set_option linter.unusedVariables false
set_option linter.unusedSimpArgs false
theorem newsetF {w w' : World} {a b c : Value} {cs : Array Value} {e : TypeId} (k : Kp none_ w w') : Kp none_ w (setF (w'.alloc (.cells cs e)) w'.heap.size a b c) :=
  (((k.alloc1 (.cells cs e)).wide.trans (kpE (kp_setF _ _ _ _ _) k.size)).narrow (Nat.le_refl _))
theorem newsetF_lt {w' : World} {a b c : Value} {cs : Array Value} {e : TypeId} : w'.heap.size < (setF (w'.alloc (.cells cs e)) w'.heap.size a b c).heap.size :=
  Nat.lt_of_lt_of_le (by rw [alloc_size]; omega) (kp_setF (w'.alloc (.cells cs e)) w'.heap.size a b c).size
theorem lenL_82 {l : List Mb} (hs : ∀ b ∈ l, b.s.length ≤ 64) : lenL l ≤ 82 * l.length := by
  induction l with
  | nil => simp [lenL]
  | cons b r ih =>
    have h1 := hs b (List.mem_cons_self ..)
    have h2 := ih fun x hx => hs x (List.mem_cons_of_mem _ hx)
    rw [lenL, List.length_cons]
    omega
theorem dir_len {l : List Mb} (h : okDir l = true) : l.length ≤ 200 ∧ (dirB l).length ≤ 16400 := by
  obtain ⟨h1, h2⟩ := okDir_all h
  have := lenL_82 (l := l) fun b hb => (okMb_facts (h2 b hb)).1
  rw [dirB_len]
  omega
/-- The bytes of a whole directory. -/
def wholeB (l : List Mb) : List UInt8 := dirB l ++ footB l.length (dirB l).length (sumL (dirB l)).toNat
theorem whole_len (l : List Mb) : (wholeB l).length = (dirB l).length + 20 := by rw [wholeB, List.length_append, footB_len]
theorem c63 {w : World} (hml : ML w) {t : Addr} (ht : Tab w t) {q : Option Addr} {c : Nat} {l : List Mb} (h : MemsAt w q l) (hs : ∀ b ∈ l, b.s.length ≤ 1000000 ∧ b.wf) : Rets Tryd.prog 63 #[.pointer (some t), .slice q l.length c] w fun v w' =>
    ∃ q n c, v = .tuple #[.slice q n c, .int .i64 (if okDir l = true then 0 else 1)] ∧ Buf w' w.heap.size 5 (.slice q n c) (if okDir l = true then wholeB l else []) ∧ Kp none_ w w' := by
  refine ent [_, _] Tryd.func63 ((vcTryd63 _ _ _ _ w _).mpr ?_)
  unfold VCTryd63
  refine (c41 hml h hs).mono ?_
  rintro v w1 ⟨q1, n1, c1, rfl, b1, k1⟩
  refine ⟨_, _, _, _, rfl, k1.keeps0, ?_⟩
  cases ho : okDir l with
  | false =>
    simp only [Bool.false_eq_true, if_false]
    exact bif_ne (fun _ => ⟨_, rfl, none, 0, 0, rfl, Buf.nil _ _ _, k1⟩) (fun h => absurd h (by decide))
  | true =>
    rw [ho] at b1
    simp only [if_true] at b1 ⊢
    obtain ⟨rfl, _⟩ := b1.lens
    obtain ⟨hl1, hl2⟩ := dir_len ho
    have hsl := (sumL (dirB l)).isLt
    refine bif_ne (fun h => absurd rfl h) (fun _ => (c106 (ht.kp0 k1) b1.bytes (by omega)).mono ?_)
    rintro v wx ⟨rfl, e⟩
    obtain rfl := e.symm
    refine ⟨_, rfl, (Kp.refl none_ _).keeps0, (c57 (ht.kp0 k1) _ _ _ (by omega)).mono ?_⟩
    have hok : okF (l.length : Int) ((dirB l).length : Int) = true := decide_eq_true ⟨⟨by omega, by omega⟩, by omega, by omega⟩
    rw [hok]
    simp only [if_true]
    rintro v w2 ⟨q2, n2, c2, rfl, b2, k2⟩
    obtain ⟨rfl, _⟩ := b2.lens
    have k02 := k1.trans k2
    refine ⟨_, _, _, _, rfl, k2.keeps0, bif_ne (fun h => absurd rfl h) (fun _ => buf_app und27 byte5 (b1.kp0 k2) k02.size rfl b2.bytes (by rw [footB_len]; omega) fun v w3 b3 k3 => ?_)⟩
    obtain ⟨q3, c3, rfl, _, _⟩ := b3.slice
    exact ⟨_, _, _, rfl, k3.keeps0, _, rfl, _, _, _, rfl, b3, (k02.wide.trans k3).narrow (Nat.le_refl _)⟩
/-- The directory of whole bytes: the members, the error. -/
def readD (l : List UInt8) : List Mb × Int :=
  if (footF l).2 ≠ 0 then ([], (footF l).2) else
  if (footF l).1.2.1 ≠ ((l.length - 20 : Nat) : Int) then ([], 5) else
  if (footF l).1.2.2 ≠ ((sumL (l.take (l.length - 20))).toNat : Int) then ([], 4) else takeD (l.take (l.length - 20)) (footF l).1.1
theorem footF_len {l : List UInt8} (h : (footF l).2 = 0) : 20 ≤ l.length := by
  unfold footF at h
  by_cases hl : l.length < 20
  · rw [if_pos hl] at h; exact absurd h (by decide)
  · omega
theorem c64 {w : World} (hml : ML w) {t : Addr} (ht : Tab w t) {q : Option Addr} {c : Nat} {l : List UInt8} (hb : BytesAt w q (ba l)) (hc : l.length ≤ c) (hl : l.length ≤ 1000000) : Rets Tryd.prog 64 #[.pointer (some t), .slice q l.length c] w fun v w' =>
    ∃ q' c', v = .tuple #[.slice q' (readD l).1.length c', .int .i64 (readD l).2] ∧ MemsAt w' q' (readD l).1 ∧ Kp none_ w w' := by
  refine ent [_, _] Tryd.func64 ((vcTryd64 _ _ _ _ w _).mpr ?_)
  unfold VCTryd64
  simp only [setF_def]
  have nom : ∀ w', MemsAt w' none ([] : List Mb) := fun w' i hi => by simp at hi
  generalize hT : readD l = T
  unfold readD at hT
  have hlen := footF_len (l := l)
  refine (c122 ht hb hc hl).mono ?_
  generalize footF l = F at *
  rintro v w1 ⟨rfl, k1⟩
  refine ⟨_, _, _, _, rfl, k1.keeps0, ?_⟩
  have kn := newsetF (a := .int .i64 F.1.1) (b := .int .i64 F.1.2.1) (c := .int .u32 F.1.2.2) (cs := #[.int .i64 0, .int .i64 0, .int .u32 0]) (e := 68) k1
  have zn : w1.heap.size < (setF (w1.alloc (.cells #[.int .i64 0, .int .i64 0, .int .u32 0] 68)) w1.heap.size (.int .i64 F.1.1) (.int .i64 F.1.2.1) (.int .u32 F.1.2.2)).heap.size := newsetF_lt
  have B : Big (setF (w1.alloc (.cells #[.int .i64 0, .int .i64 0, .int .u32 0] 68)) w1.heap.size (.int .i64 F.1.1) (.int .i64 F.1.2.1) (.int .u32 F.1.2.2)) w1.heap.size 68 [.int .i64 F.1.1, .int .i64 F.1.2.1, .int .u32 F.1.2.2] := big_setF (x := .int .i64 0) (y := .int .i64 0) (z := .int .u32 0) (Big.new w1 _ 68)
  generalize setF (w1.alloc (.cells #[.int .i64 0, .int .i64 0, .int .u32 0] 68)) w1.heap.size (.int .i64 F.1.1) (.int .i64 F.1.2.1) (.int .u32 F.1.2.2) = wn at *
  refine bif_ne (fun hne _ => ?_) (fun heq => ?_)
  · rw [if_pos hne] at hT
    subst hT
    exact ⟨_, rfl, none, 0, rfl, nom _, kn⟩
  have h20 := hlen heq
  rw [if_neg (fun h => h heq)] at hT
  refine wr64 (by omega) ⟨⟨by omega, by omega⟩, ?_⟩
  have e1 : ((l.length : Int) - 20).toNat - 0 = l.length - 20 := by omega
  rw [e1]
  refine bif_ne (fun hne _ => ?_) (fun heq2 _ => ?_)
  · rw [if_pos hne] at hT
    subst hT
    exact ⟨_, rfl, none, 0, rfl, nom _, kn⟩
  rw [if_neg (fun h => h heq2)] at hT
  have kd : Kp none_ wn wn.drew := Kp.drew1
  have k0 := kn.trans kd
  have z0 : w1.heap.size < wn.drew.heap.size := zn
  have etk : (l.take (l.length - 20)).length = l.length - 20 := by rw [List.length_take]; omega
  have hbt : ∀ {w' : World}, Kp none_ w w' → BytesAt w' (cutA q c 0 1) (ba (l.take (l.length - 20))) := fun k => by
    have := bytes_drop (hb.kp0 k) (a := 0) (k := l.length - 20) (by omega) hc
    rwa [List.drop_zero] at this
  have h106 := c106 (ht.kp0 k0) (c := c - 0) (hbt k0) (by omega)
  rw [etk] at h106
  refine h106.mono ?_
  rintro v wx ⟨rfl, e⟩
  obtain rfl := e.symm
  refine ⟨_, rfl, (Kp.refl none_ _).k0 z0, (B.kp kd id).cell 2, bif_ne (fun hne _ => ?_) (fun heq3 _ => ?_)⟩
  · rw [if_pos hne] at hT
    subst hT
    exact ⟨_, rfl, none, 0, rfl, nom _, k0⟩
  rw [if_neg (fun h => h heq3)] at hT
  have h117 := c117 (hml.kp0 k0) (c := c - 0) (hbt k0) (by omega) (by omega) F.1.1
  rw [etk, hT] at h117
  refine h117.mono ?_
  rintro v w2 ⟨q2, c2, rfl, m2, k2⟩
  exact ⟨_, _, _, _, rfl, k2.k0 z0, fun _ => ⟨_, rfl, q2, c2, rfl, m2, k0.trans k2⟩⟩
theorem okNil : okDir [] = true := by decide
theorem readNil : readD (wholeB []) = ([], 0) := by decide +kernel
theorem c60 {w : World} (hml : ML w) : Rets Tryd.prog 60 #[] w fun v w' => v = .bool true ∧ Kp none_ w w' := by
  refine ent [] Tryd.func60 ((vcTryd60 w _).mpr ?_)
  unfold VCTryd60
  refine mk_tab fun w4 w7 k7 t7 _ _ => ?_
  refine (c63 (hml.kp0 k7) t7 (q := none) (c := 0) (l := []) (fun i hi => by simp at hi) (fun b hb => by cases hb)).mono ?_
  rw [okNil]
  simp only [if_true]
  rintro v w8 ⟨q, n, c, rfl, b8, k8⟩
  obtain ⟨rfl, hc, _⟩ := b8.lens
  have k08 := k7.trans k8
  have hl : (wholeB []).length = 20 := by rw [whole_len]; rfl
  refine ⟨_, _, _, _, rfl, k8.keeps0, (c64 (hml.kp0 k08) (t7.kp0 k8) b8.bytes hc (by omega)).mono ?_⟩
  rw [readNil]
  rintro v w9 ⟨q9, c9, rfl, m9, k9⟩
  rw [hl]
  refine ⟨_, _, _, _, rfl, k9.keeps0, ?_⟩
  show cond true (cond true (cond true _ _) _) _
  simp only [cond_true]
  exact ⟨_, rfl, rfl, k08.trans k9⟩
theorem c13 {W : World} (hml : ML W) (n l u : Int) (hu : 0 ≤ u ∧ u < 4294967296) : Rets Tryd.prog 13 #[ftV n l u] W fun v w' => v = .bool true ∧ Kp none_ W w' := by
  refine ent [_] Tryd.func13 ((vcTryd13 _ _ _ W _).mpr ?_)
  unfold VCTryd13
  intro _
  have ka : Kp none_ W (W.alloc (.cells #[.int .i64 n, .int .i64 l, .int .u32 u] 68)) := (Kp.refl none_ W).alloc1 _
  have z0 : W.heap.size < (W.alloc (.cells #[.int .i64 n, .int .i64 l, .int .u32 u] 68)).heap.size := by rw [alloc_size]; omega
  generalize W.alloc (.cells #[.int .i64 n, .int .i64 l, .int .u32 u] 68) = w0 at *
  have live : ∀ {P : World → Prop} {w : World}, Kp none_ w0 w → Rets Tryd.prog 60 #[] w fun v w' => ∃ t, v = .bool t ∧ Keeps w w' [W.heap.size] ∧ (P w' → ∃ v, Ending.returned (Value.bool t) = Ending.returned v ∧ v = .bool true ∧ Kp none_ W w') := fun k => (c60 (hml.kp0 (ka.trans k))).mono (by
    rintro v w' ⟨rfl, k2⟩
    exact ⟨_, rfl, k2.k0 (Nat.lt_of_lt_of_le z0 k.size), fun _ => ⟨_, rfl, rfl, (ka.trans k).trans k2⟩⟩)
  refine mk_tabK z0 fun w4 w7 k7 t7 _ _ _ => (c57 t7 n l u hu).mono ?_
  rintro v w8 ⟨q, k, c, rfl, b8, k8⟩
  have z7 := Nat.lt_of_lt_of_le z0 k7.size
  have k08 := k7.trans k8
  have z8 := Nat.lt_of_lt_of_le z0 k08.size
  refine ⟨_, _, _, _, rfl, k8.k0 z7, fun _ => (c58 n l u w8).mono ?_⟩
  rintro v w9 ⟨rfl, k9⟩
  have k09 := k08.trans k9
  have z9 := Nat.lt_of_lt_of_le z0 k09.size
  refine ⟨_, rfl, k9.k0 z8, fun _ => (c59 n l u w9).mono ?_⟩
  rintro v w10 ⟨rfl, k10⟩
  have k010 := k09.trans k10
  have b10 := (b8.kp0 k9).kp0 k10
  refine ⟨_, rfl, k10.k0 z9, bif_b (fun h => by simp at h) (fun _ => ?_)⟩
  cases ho : okF n l with
  | false =>
    rw [ho] at b10
    simp only [Bool.false_eq_true, if_false] at b10 ⊢
    obtain ⟨rfl, _⟩ := b10.lens
    show cond true (cond true (cond true _ _) _) _
    simp only [cond_true]
    exact fun _ => live k010
  | true =>
    rw [ho] at b10
    simp only [if_true] at b10 ⊢
    obtain ⟨rfl, _⟩ := b10.lens
    have hok := of_decide_eq_true ho
    have kd : Kp none_ w10 w10.drew := Kp.drew1
    have b11 := b10.kp0 kd
    refine bif_not (fun h => by cases h) (fun _ => bif_eq (fun _ => ⟨_, ba_size _, b11.bytes, fun _ => (c61 n l u _ (by omega) (by omega) hu).mono ?_⟩) (fun h => absurd rfl h))
    rintro v w12 ⟨b12, k12⟩
    obtain ⟨q12, c12, rfl, _, _⟩ := b12.slice
    refine ⟨_, _, _, rfl, k12.k0 (Nat.lt_of_lt_of_le z0 (k010.trans kd).size), (b11.kp0 k12).bytes, _, ba_size _, b12.bytes, bif_b (fun _ _ => live ((k010.trans kd).trans k12)) (fun h => by simp at h)⟩
end Go.Proofs.YtbpknjldphckgaaDoor
