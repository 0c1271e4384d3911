/- A whole directory, written and read. -/
import Derived.Test.YtbpknjldphckgaaDoorHb
namespace Go.Proofs.YtbpknjldphckgaaDoor
open Go Go.SX Go.SX.Crc Go.Proofs Go.Lib
set_option maxRecDepth 100000
set_option linter.unusedVariables false
set_option linter.unusedSimpArgs false
theorem newsetF {w w' : World} {a b c : Value} {cs : Array Value} {e : TypeId} (k : Kp none_ w w') : Kp none_ w (setF (w'.alloc (.cells cs e)) w'.heap.size a b c) :=
  (((k.alloc1 (.cells cs e)).wide.trans (kpE (kp_setF _ _ _ _ _) k.size)).narrow (Nat.le_refl _))
theorem newsetF_lt {w' : World} {a b c : Value} {cs : Array Value} {e : TypeId} : w'.heap.size < (setF (w'.alloc (.cells cs e)) w'.heap.size a b c).heap.size :=
  Nat.lt_of_lt_of_le (by rw [alloc_size]; omega) (kp_setF (w'.alloc (.cells cs e)) w'.heap.size a b c).size
theorem lenL_82 {l : List Mb} (hs : ∀ b ∈ l, b.s.length ≤ 64) : lenL l ≤ 82 * l.length := by
  induction l with
  | nil => simp [lenL]
  | cons b r ih =>
    have h1 := hs b (List.mem_cons_self ..)
    have h2 := ih fun x hx => hs x (List.mem_cons_of_mem _ hx)
    rw [lenL, List.length_cons]
    omega
theorem dir_len {l : List Mb} (h : okDir l = true) : l.length ≤ 200 ∧ (dirB l).length ≤ 16400 := by
  obtain ⟨h1, h2⟩ := okDir_all h
  have := lenL_82 (l := l) fun b hb => (okMb_facts (h2 b hb)).1
  rw [dirB_len]
  omega
/-- The bytes of a whole directory. -/
def wholeB (l : List Mb) : List UInt8 := dirB l ++ footB l.length (dirB l).length (sumL (dirB l)).toNat
theorem whole_len (l : List Mb) : (wholeB l).length = (dirB l).length + 20 := by rw [wholeB, List.length_append, footB_len]
theorem c63 {w : World} (hml : ML w) {t : Addr} (ht : Tab w t) {q : Option Addr} {c : Nat} {l : List Mb} (h : MemsAt w q l) (hs : ∀ b ∈ l, b.s.length ≤ 1000000 ∧ b.wf) : Rets Tryd.prog 63 #[.pointer (some t), .slice q l.length c] w fun v w' =>
    ∃ q n c, v = .tuple #[.slice q n c, .int .i64 (if okDir l = true then 0 else 1)] ∧ Buf w' w.heap.size 5 (.slice q n c) (if okDir l = true then wholeB l else []) ∧ Kp none_ w w' := by
  refine ent [_, _] Tryd.func63 ((vcTryd63 _ _ _ _ w _).mpr ?_)
  unfold VCTryd63
  refine (c41 hml h hs).mono ?_
  rintro v w1 ⟨q1, n1, c1, rfl, b1, k1⟩
  refine ⟨_, _, _, _, rfl, k1.keeps0, ?_⟩
  cases ho : okDir l with
  | false =>
    simp only [Bool.false_eq_true, if_false]
    exact bif_ne (fun _ => ⟨_, rfl, none, 0, 0, rfl, Buf.nil _ _ _, k1⟩) (fun h => absurd h (by decide))
  | true =>
    rw [ho] at b1
    simp only [if_true] at b1 ⊢
    obtain ⟨rfl, _⟩ := b1.lens
    obtain ⟨hl1, hl2⟩ := dir_len ho
    have hsl := (sumL (dirB l)).isLt
    refine bif_ne (fun h => absurd rfl h) (fun _ => (c106 (ht.kp0 k1) b1.bytes (by omega)).mono ?_)
    rintro v wx ⟨rfl, e⟩
    obtain rfl := e.symm
    refine ⟨_, rfl, (Kp.refl none_ _).keeps0, (c57 (ht.kp0 k1) _ _ _ (by omega)).mono ?_⟩
    have hok : okF (l.length : Int) ((dirB l).length : Int) = true := decide_eq_true ⟨⟨by omega, by omega⟩, by omega, by omega⟩
    rw [hok]
    simp only [if_true]
    rintro v w2 ⟨q2, n2, c2, rfl, b2, k2⟩
    obtain ⟨rfl, _⟩ := b2.lens
    have k02 := k1.trans k2
    refine ⟨_, _, _, _, rfl, k2.keeps0, bif_ne (fun h => absurd rfl h) (fun _ => buf_app und27 byte5 (b1.kp0 k2) k02.size rfl b2.bytes (by rw [footB_len]; omega) fun v w3 b3 k3 => ?_)⟩
    obtain ⟨q3, c3, rfl, _, _⟩ := b3.slice
    exact ⟨_, _, _, rfl, k3.keeps0, _, rfl, _, _, _, rfl, b3, (k02.wide.trans k3).narrow (Nat.le_refl _)⟩
/-- The directory of whole bytes: the members, the error. -/
def readD (l : List UInt8) : List Mb × Int :=
  if (footF l).2 ≠ 0 then ([], (footF l).2) else
  if (footF l).1.2.1 ≠ ((l.length - 20 : Nat) : Int) then ([], 5) else
  if (footF l).1.2.2 ≠ ((sumL (l.take (l.length - 20))).toNat : Int) then ([], 4) else takeD (l.take (l.length - 20)) (footF l).1.1
theorem footF_len {l : List UInt8} (h : (footF l).2 = 0) : 20 ≤ l.length := by
  unfold footF at h
  by_cases hl : l.length < 20
  · rw [if_pos hl] at h; exact absurd h (by decide)
  · omega
theorem c64 {w : World} (hml : ML w) {t : Addr} (ht : Tab w t) {q : Option Addr} {c : Nat} {l : List UInt8} (hb : BytesAt w q (ba l)) (hc : l.length ≤ c) (hl : l.length ≤ 1000000) : Rets Tryd.prog 64 #[.pointer (some t), .slice q l.length c] w fun v w' =>
    ∃ q' c', v = .tuple #[.slice q' (readD l).1.length c', .int .i64 (readD l).2] ∧ MemsAt w' q' (readD l).1 ∧ Kp none_ w w' := by
  refine ent [_, _] Tryd.func64 ((vcTryd64 _ _ _ _ w _).mpr ?_)
  unfold VCTryd64
  simp only [setF_def]
  have nom : ∀ w', MemsAt w' none ([] : List Mb) := fun w' i hi => by simp at hi
  generalize hT : readD l = T
  unfold readD at hT
  have hlen := footF_len (l := l)
  refine (c122 ht hb hc hl).mono ?_
  generalize footF l = F at *
  rintro v w1 ⟨rfl, k1⟩
  refine ⟨_, _, _, _, rfl, k1.keeps0, ?_⟩
  have kn := newsetF (a := .int .i64 F.1.1) (b := .int .i64 F.1.2.1) (c := .int .u32 F.1.2.2) (cs := #[.int .i64 0, .int .i64 0, .int .u32 0]) (e := 68) k1
  have zn : w1.heap.size < (setF (w1.alloc (.cells #[.int .i64 0, .int .i64 0, .int .u32 0] 68)) w1.heap.size (.int .i64 F.1.1) (.int .i64 F.1.2.1) (.int .u32 F.1.2.2)).heap.size := newsetF_lt
  have B : Big (setF (w1.alloc (.cells #[.int .i64 0, .int .i64 0, .int .u32 0] 68)) w1.heap.size (.int .i64 F.1.1) (.int .i64 F.1.2.1) (.int .u32 F.1.2.2)) w1.heap.size 68 [.int .i64 F.1.1, .int .i64 F.1.2.1, .int .u32 F.1.2.2] := big_setF (x := .int .i64 0) (y := .int .i64 0) (z := .int .u32 0) (Big.new w1 _ 68)
  generalize setF (w1.alloc (.cells #[.int .i64 0, .int .i64 0, .int .u32 0] 68)) w1.heap.size (.int .i64 F.1.1) (.int .i64 F.1.2.1) (.int .u32 F.1.2.2) = wn at *
  refine bif_ne (fun hne _ => ?_) (fun heq => ?_)
  · rw [if_pos hne] at hT
    subst hT
    exact ⟨_, rfl, none, 0, rfl, nom _, kn⟩
  have h20 := hlen heq
  rw [if_neg (fun h => h heq)] at hT
  refine wr64 (by omega) ⟨⟨by omega, by omega⟩, ?_⟩
  have e1 : ((l.length : Int) - 20).toNat - 0 = l.length - 20 := by omega
  rw [e1]
  refine bif_ne (fun hne _ => ?_) (fun heq2 _ => ?_)
  · rw [if_pos hne] at hT
    subst hT
    exact ⟨_, rfl, none, 0, rfl, nom _, kn⟩
  rw [if_neg (fun h => h heq2)] at hT
  have kd : Kp none_ wn wn.drew := Kp.drew1
  have k0 := kn.trans kd
  have z0 : w1.heap.size < wn.drew.heap.size := zn
  have etk : (l.take (l.length - 20)).length = l.length - 20 := by rw [List.length_take]; omega
  have hbt : ∀ {w' : World}, Kp none_ w w' → BytesAt w' (cutA q c 0 1) (ba (l.take (l.length - 20))) := fun k => by
    have := bytes_drop (hb.kp0 k) (a := 0) (k := l.length - 20) (by omega) hc
    rwa [List.drop_zero] at this
  have h106 := c106 (ht.kp0 k0) (c := c - 0) (hbt k0) (by omega)
  rw [etk] at h106
  refine h106.mono ?_
  rintro v wx ⟨rfl, e⟩
  obtain rfl := e.symm
  refine ⟨_, rfl, (Kp.refl none_ _).k0 z0, (B.kp kd id).cell 2, bif_ne (fun hne _ => ?_) (fun heq3 _ => ?_)⟩
  · rw [if_pos hne] at hT
    subst hT
    exact ⟨_, rfl, none, 0, rfl, nom _, k0⟩
  rw [if_neg (fun h => h heq3)] at hT
  have h117 := c117 (hml.kp0 k0) (c := c - 0) (hbt k0) (by omega) (by omega) F.1.1
  rw [etk, hT] at h117
  refine h117.mono ?_
  rintro v w2 ⟨q2, c2, rfl, m2, k2⟩
  exact ⟨_, _, _, _, rfl, k2.k0 z0, fun _ => ⟨_, rfl, q2, c2, rfl, m2, k0.trans k2⟩⟩
theorem okNil : okDir [] = true := by decide
theorem readNil : readD (wholeB []) = ([], 0) := by decide +kernel
theorem c60 {w : World} (hml : ML w) : Rets Tryd.prog 60 #[] w fun v w' => v = .bool true ∧ Kp none_ w w' := by
  refine ent [] Tryd.func60 ((vcTryd60 w _).mpr ?_)
  unfold VCTryd60
  refine mk_tab fun w4 w7 k7 t7 _ _ => ?_
  refine (c63 (hml.kp0 k7) t7 (q := none) (c := 0) (l := []) (fun i hi => by simp at hi) (fun b hb => by cases hb)).mono ?_
  rw [okNil]
  simp only [if_true]
  rintro v w8 ⟨q, n, c, rfl, b8, k8⟩
  obtain ⟨rfl, hc, _⟩ := b8.lens
  have k08 := k7.trans k8
  have hl : (wholeB []).length = 20 := by rw [whole_len]; rfl
  refine ⟨_, _, _, _, rfl, k8.keeps0, (c64 (hml.kp0 k08) (t7.kp0 k8) b8.bytes hc (by omega)).mono ?_⟩
  rw [readNil]
  rintro v w9 ⟨q9, c9, rfl, m9, k9⟩
  rw [hl]
  refine ⟨_, _, _, _, rfl, k9.keeps0, ?_⟩
  show cond true (cond true (cond true _ _) _) _
  simp only [cond_true]
  exact ⟨_, rfl, rfl, k08.trans k9⟩
theorem c13 {W : World} (hml : ML W) (n l u : Int) (hu : 0 ≤ u ∧ u < 4294967296) : Rets Tryd.prog 13 #[ftV n l u] W fun v w' => v = .bool true ∧ Kp none_ W w' := by
  refine ent [_] Tryd.func13 ((vcTryd13 _ _ _ W _).mpr ?_)
  unfold VCTryd13
  intro _
  have ka : Kp none_ W (W.alloc (.cells #[.int .i64 n, .int .i64 l, .int .u32 u] 68)) := (Kp.refl none_ W).alloc1 _
  have z0 : W.heap.size < (W.alloc (.cells #[.int .i64 n, .int .i64 l, .int .u32 u] 68)).heap.size := by rw [alloc_size]; omega
  generalize W.alloc (.cells #[.int .i64 n, .int .i64 l, .int .u32 u] 68) = w0 at *
  have live : ∀ {P : World → Prop} {w : World}, Kp none_ w0 w → Rets Tryd.prog 60 #[] w fun v w' => ∃ t, v = .bool t ∧ Keeps w w' [W.heap.size] ∧ (P w' → ∃ v, Ending.returned (Value.bool t) = Ending.returned v ∧ v = .bool true ∧ Kp none_ W w') := fun k => (c60 (hml.kp0 (ka.trans k))).mono (by
    rintro v w' ⟨rfl, k2⟩
    exact ⟨_, rfl, k2.k0 (Nat.lt_of_lt_of_le z0 k.size), fun _ => ⟨_, rfl, rfl, (ka.trans k).trans k2⟩⟩)
  refine mk_tabK z0 fun w4 w7 k7 t7 _ _ _ => (c57 t7 n l u hu).mono ?_
  rintro v w8 ⟨q, k, c, rfl, b8, k8⟩
  have z7 := Nat.lt_of_lt_of_le z0 k7.size
  have k08 := k7.trans k8
  have z8 := Nat.lt_of_lt_of_le z0 k08.size
  refine ⟨_, _, _, _, rfl, k8.k0 z7, fun _ => (c58 n l u w8).mono ?_⟩
  rintro v w9 ⟨rfl, k9⟩
  have k09 := k08.trans k9
  have z9 := Nat.lt_of_lt_of_le z0 k09.size
  refine ⟨_, rfl, k9.k0 z8, fun _ => (c59 n l u w9).mono ?_⟩
  rintro v w10 ⟨rfl, k10⟩
  have k010 := k09.trans k10
  have b10 := (b8.kp0 k9).kp0 k10
  refine ⟨_, rfl, k10.k0 z9, bif_b (fun h => by simp at h) (fun _ => ?_)⟩
  cases ho : okF n l with
  | false =>
    rw [ho] at b10
    simp only [Bool.false_eq_true, if_false] at b10 ⊢
    obtain ⟨rfl, _⟩ := b10.lens
    show cond true (cond true (cond true _ _) _) _
    simp only [cond_true]
    exact fun _ => live k010
  | true =>
    rw [ho] at b10
    simp only [if_true] at b10 ⊢
    obtain ⟨rfl, _⟩ := b10.lens
    have hok := of_decide_eq_true ho
    have kd : Kp none_ w10 w10.drew := Kp.drew1
    have b11 := b10.kp0 kd
    refine bif_not (fun h => by cases h) (fun _ => bif_eq (fun _ => ⟨_, ba_size _, b11.bytes, fun _ => (c61 n l u _ (by omega) (by omega) hu).mono ?_⟩) (fun h => absurd rfl h))
    rintro v w12 ⟨b12, k12⟩
    obtain ⟨q12, c12, rfl, _, _⟩ := b12.slice
    refine ⟨_, _, _, rfl, k12.k0 (Nat.lt_of_lt_of_le z0 (k010.trans kd).size), (b11.kp0 k12).bytes, _, ba_size _, b12.bytes, bif_b (fun _ _ => live ((k010.trans kd).trans k12)) (fun h => by simp at h)⟩
end Go.Proofs.YtbpknjldphckgaaDoor
