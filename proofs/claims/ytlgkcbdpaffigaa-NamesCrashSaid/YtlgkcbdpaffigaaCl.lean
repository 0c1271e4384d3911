/- Names: what the laws ask of calls; what lives. -/
import Derived.Test.YtlgkcbdpaffigaaCk
namespace Go.Proofs.Ytlgkcbdpaffigaa
open Go Go.SX Go.Proofs
set_option maxRecDepth 100000
set_option linter.unusedVariables false
set_option linter.unusedSimpArgs false
theorem opC_len (x : Opx) : (opC x).length = 4 := rfl
theorem c35 {w : World} {q : Option Addr} {c : Nat} {l : List Opx} (h : RowsAt w 4 opC q l) : Rets Try.prog 35 #[.slice q l.length c] w fun v w' => w' = w ∧ ∃ t, v = .bool t ∧ (t = false → l.length ≤ 60) := by
  refine ent [_] Try.func35 ((vcTry35 _ _ _ w _).mpr ?_)
  unfold VCTry35
  have fin : ∃ v, Ending.returned (.bool (decide ((l.length : Int) > 60))) = Ending.returned v ∧ w = w ∧ ∃ t, v = .bool t ∧ (t = false → l.length ≤ 60) := ⟨_, rfl, rfl, _, rfl, fun e => by have := of_decide_eq_false e; omega⟩
  have yes : ∃ v, Ending.returned (.bool true) = Ending.returned v ∧ w = w ∧ ∃ t, v = .bool t ∧ (t = false → l.length ≤ 60) := ⟨_, rfl, rfl, _, rfl, fun e => by cases e⟩
  refine ⟨fun i w' => w' = w ∧ 0 ≤ i ∧ i ≤ 100, fun i _ => (l.length - i).toNat, ⟨rfl, by omega, by omega⟩, ?_⟩
  rintro i w1 ⟨rfl, h0, h1⟩
  refine bif_dec (fun hi => bif_dec (fun hj => ?_) (fun _ => fin)) (fun _ => fin)
  have hl : i.toNat < l.length := by omega
  refine ⟨⟨h0, hi⟩, h.get hl fun a e hc => ?_⟩
  rw [show i.toNat * 4 = i.toNat * (4 : Nat) from rfl]
  refine ⟨_, hc 1 _ rfl, bif_dec (fun _ => yes) (fun _ => ⟨⟨h0, hi⟩, h.get hl fun a e hc => ⟨_, hc 2 _ rfl, bif_dec (fun _ => yes) (fun _ => wr64 (by omega) ⟨⟨rfl, by omega, by omega⟩, by first | omega | (dsimp only; omega)⟩)⟩⟩)⟩
/-- The three cells, whatever they are. -/
theorem DR.pass {O : Nat → Prop} {w : World} {b : Nat} {S : List Ent} {ws : List Chg} (h : DR w O b 0 S ws) {P : Option Nat → Option Nat → Option Addr → Nat → Nat → Prop} (hP : ∀ m0 m1 q n c, P m0 m1 q n c) :
    ∃ m0, w.cell? ⟨b, 0, none⟩ = some (.map m0) ∧ w.frozen? ⟨b, 0, none⟩ = false ∧ ∃ m1, w.cell? ⟨b, 1, none⟩ = some (.map m1) ∧ w.frozen? ⟨b, 1, none⟩ = false ∧ ∃ q n c, w.cell? ⟨b, 2, none⟩ = some (.slice q n c) ∧ w.frozen? ⟨b, 2, none⟩ = false ∧ P m0 m1 q n c := by
  obtain ⟨m0, m1, vw, own, h1, h2, h3, h4, h5, h6, h8, h9⟩ := h
  obtain ⟨q, c, rfl⟩ := h9.slice
  exact ⟨m0, h1.get 0 rfl, (h1.slot 0 (by simp)).2, m1, h1.get 1 rfl, (h1.slot 1 (by simp)).2, q, _, c, h1.get 2 rfl, (h1.slot 2 (by simp)).2, hP _ _ _ _ _⟩
theorem RD.pass {O : Nat → Prop} {w : World} {b : Nat} {H : List (List Ent)} {N : List Ent} (h : RD w O b 0 H N) {P : Option Addr → Nat → Nat → Option Addr → Nat → Nat → Prop} (hP : ∀ q c q' c', EAt w q N → w.cell? ⟨b, 0, none⟩ = some (.slice q N.length c) → w.cell? ⟨b, 1, none⟩ = some (.slice q' H.length c') → P q N.length c q' H.length c') :
    ∃ q n c, w.cell? ⟨b, 0, none⟩ = some (.slice q n c) ∧ w.frozen? ⟨b, 0, none⟩ = false ∧ ∃ q' n' c', w.cell? ⟨b, 1, none⟩ = some (.slice q' n' c') ∧ w.frozen? ⟨b, 1, none⟩ = false ∧ P q n c q' n' c' := by
  obtain ⟨qn, cn, vp, own, ps, h1, h2, h3, h4, rfl, h6, h7⟩ := h
  obtain ⟨q, c, rfl⟩ := h6.slice
  refine ⟨qn, _, cn, h1.get 0 rfl, (h1.slot 0 (by simp)).2, q, ps.length, c, h1.get 1 rfl, (h1.slot 1 (by simp)).2, ?_⟩
  have := hP qn cn q c h4.1 (h1.get 0 rfl) (by rw [List.length_map]; exact h1.get 1 rfl)
  rw [List.length_map] at this
  exact this
theorem look_at {l : List Ent} (h : NK l) {i : Nat} (hi : i < l.length) : lookE l l[i].1 = some l[i].2 := (lookE_nk h).2 (List.getElem_mem hi)
theorem has_at {l : List Ent} {i : Nat} (hi : i < l.length) : has Prod.fst l l[i].1 = true := by
  rw [has, List.any_eq_true]
  exact ⟨l[i], List.getElem_mem hi, by simp⟩
/-- The directory has just these names. -/
theorem c45 {w : World} {O : Nat → Prop} {b : Nat} {S N : List Ent} {ws : List Chg} (h : DR w O b 0 S ws) (ha : Asc Prod.fst N) (hl : N.length ≤ 1000000) (e : N = lastE S ws) {q : Option Addr} {c : Nat} (hq : EAt w q N) : Rets Try.prog 45 #[ptA b 0, .slice q N.length c] w fun v w' => v = .bool true ∧ Kp none_ w w' := by
  refine ent [_, _] Try.func45 ((vcTry45 _ _ _ _ w _).mpr ?_)
  unfold VCTry45
  subst e
  refine (c39 h ha hl).mono ?_
  rintro v w1 ⟨q1, c1, rfl, r1, _, k1⟩
  refine ⟨_, _, _, rfl, k1.keeps0, bif_ne (fun hh => absurd rfl hh) fun _ => ?_⟩
  refine ⟨fun i w' => Kp none_ w1 w' ∧ 0 ≤ i, fun i _ => ((lastE S ws).length - i).toNat, ⟨Kp.refl _ _, by omega⟩, ?_⟩
  rintro i w2 ⟨k2, h0⟩
  refine bif_dec (fun hi => ?_) (fun _ => ⟨_, rfl, rfl, k1.trans k2⟩)
  have hil : i.toNat < (lastE S ws).length := by omega
  have hil' : i.toNat < ((lastE S ws).map Prod.fst).length := by simpa using hil
  have r2 := r1.kp0 k2
  refine ⟨⟨h0, hi⟩, r2.get hil' fun a ea hc => ⟨_, (cell_add0 _ _).symm.trans (hc 0 _ rfl), (c42 (h.kp0 (k1.trans k2)) _).mono ?_⟩⟩
  rintro v w3 ⟨rfl, rfl⟩
  refine ⟨_, _, rfl, (Kp.refl none_ _).keeps0, ⟨h0, hi⟩, r2.get hil' fun a ea hc => ⟨_, (cell_add0 _ _).symm.trans (hc 0 _ rfl), ⟨h0, hi⟩, (hq.kp0 (k1.trans k2)).get hil fun a ea hc => ⟨_, hc 0 _ rfl, ?_⟩⟩⟩
  refine bif_not (fun hh => ?_) fun _ => ⟨⟨h0, hi⟩, (hq.kp0 (k1.trans k2)).get hil fun a ea hc => ⟨_, hc 1 _ rfl, ?_⟩⟩
  · simp at hh
  · rw [List.getElem_map, look_at (asc_nk ha) hil, has_at hil]
    refine bif_ne (fun hh => absurd rfl hh) fun _ => ?_
    exact bif_not (fun hh => by cases hh) fun _ => wr64 (by omega) ⟨⟨k2.drew, by omega⟩, by first | omega | (dsimp only; omega)⟩
theorem b97 : ({ data := #[97] } : ByteArray) = ba [97] := rfl
theorem b98 : ({ data := #[98] } : ByteArray) = ba [98] := rfl
theorem last1 : lastE [] [⟨[], [97], 1⟩] = [([97], 1)] := by decide
theorem last2 : lastE [] [⟨[], [97], 1⟩, ⟨[97], [98], 0⟩] = [([98], 1)] := by decide
theorem asc1 (s : List UInt8) (i : Int) : Asc Prod.fst [((s, i) : Ent)] := by
  first | exact List.pairwise_singleton _ _ | simp [Asc]
theorem c36 (w : World) : Rets Try.prog 36 #[] w fun v w' => v = .bool true ∧ Kp none_ w w' := by
  refine ent [] Try.func36 ((vcTry36 w _).mpr ?_)
  unfold VCTry36
  intro _
  have ka : Kp none_ w (w.alloc (.cells #[.map none, .map none, .slice none 0 0] 79)) := (Kp.refl none_ _).alloc1 _
  have za : (w.alloc (.cells #[.map none, .map none, .slice none 0 0] 79)).heap.size = w.heap.size + 1 := alloc_size _ _
  have Ba : Big (w.alloc (.cells #[.map none, .map none, .slice none 0 0] 79)) w.heap.size 79 [.map none, .map none, .slice none 0 0] := Big.new _ _ 79
  generalize w.alloc (.cells #[.map none, .map none, .slice none 0 0] 79) = W at *
  have D0 : DR W (fun i => w.heap.size ≤ i) w.heap.size 0 [] [] := DR.zero (fun j v hv => by
    rw [Nat.zero_add]
    exact ⟨by rw [Ba.cell]; exact hv, Ba.frz _⟩) _ (Nat.le_refl _)
  rw [b97, b98]
  refine (c47 D0 (by simp) (by simp [lastE, Asc]) [97] 1).mono ?_
  rintro v w1 ⟨rfl, d1, k1, _⟩
  rw [show createE (lastE [] []) [97] = 0 by decide, if_pos rfl] at d1
  have d1 := d1.mono (O' := fun i => w.heap.size ≤ i) fun i _ hi => by have := k1.size; omega
  refine ⟨_, rfl, k1.keeps0, d1.pass fun _ _ _ _ _ _ => (c43 d1 (by simp) (by rw [show ([] ++ [⟨[], [97], 1⟩] : List Chg) = [⟨[], [97], 1⟩] from rfl, last1]; exact asc1 _ _) [97] [98]).mono ?_⟩
  rintro v w2 ⟨rfl, d2, k2, _⟩
  rw [show renameE (lastE [] ([] ++ [⟨[], [97], 1⟩])) [97] [98] = 0 by decide, if_pos rfl] at d2
  have d2 := d2.mono (O' := fun i => w.heap.size ≤ i) fun i _ hi => by have := k1.size; have := k2.size; omega
  have e2 : lastE [] ([] ++ [⟨[], [97], 1⟩] ++ [⟨[97], [98], 0⟩]) = [([98], 1)] := last2
  refine ⟨_, rfl, k2.keeps0, d2.pass fun _ _ _ _ _ _ => (c39 d2 (by rw [e2]; exact asc1 _ _) (by rw [e2]; simp)).mono ?_⟩
  rintro v w3 ⟨q3, c3, rfl, r3, f3, k3⟩
  rw [e2] at r3
  have z1 := k1.size
  have z2 := k2.size
  have z3 := k3.size
  have d3 := (d2.mono (O' := fun i => w.heap.size ≤ i ∧ i < w2.heap.size) fun i hl hi => ⟨hi, hl⟩).kp0 k3
  refine ⟨_, _, _, rfl, k3.keeps0, d3.pass fun _ _ _ _ _ _ => ?_⟩
  have hh : Hst [] ([] ++ [⟨[], [97], 1⟩] ++ [⟨[97], [98], 0⟩]) [[], [([97], 1)]] [([98], 1)] := ((⟨wfE_nil, trivial, rfl⟩ : Hst [] [] [] []).snoc (c := ⟨[], [97], 1⟩) (create_ok wfE_nil (by decide) 1).1).snoc (c := ⟨[97], [98], 0⟩) (rename_ok (wf_last (S := []) (ws := [⟨[], [97], 1⟩]) wfE_nil ⟨(create_ok wfE_nil (by decide) 1).1, trivial⟩) (by decide)).1
  refine (c40 d3 (fun i hi => by have := hi.2; omega) hh.wf hh.ok (by simp) 1).mono ?_
  rintro v w4 ⟨rfl, d4, k4, _⟩
  have z4 := k4.size
  have r4 := r3.kp k4 fun _ a e hi => by have := f3 a e; have := hi.2; omega
  have e4 : lastE (lastE [] (([] ++ [⟨[], [97], 1⟩] ++ [⟨[97], [98], 0⟩] : List Chg).take (1 : Int).toNat)) [] = [([97], 1)] := last1
  refine ⟨rfl, k4.keeps0, d4.pass fun _ _ _ _ _ _ => (c39 d4 (by rw [e4]; exact asc1 _ _) (by rw [e4]; simp)).mono ?_⟩
  rintro v w5 ⟨q5, c5, rfl, r5, f5, k5⟩
  rw [e4] at r5
  have r45 := r4.kp0 k5
  refine ⟨_, _, _, rfl, k5.keeps0, (d4.kp0 k5).pass fun _ _ _ _ _ => ?_⟩
  rw [e2, e4]
  refine bif_eq (fun _ => ⟨⟨by omega, by simp⟩, r45.get (i := 0) (by simp) fun a ea hc => ⟨_, (cell_add0 _ _).symm.trans (hc 0 _ rfl), bif_b (fun _ => bif_eq (fun _ => ⟨⟨by omega, by simp⟩, r5.get (i := 0) (by simp) fun a ea hc => ⟨_, (cell_add0 _ _).symm.trans (hc 0 _ rfl), fun _ => ⟨_, rfl, ?_, ?_⟩⟩⟩) (fun hh => absurd rfl hh)) (fun hh => ?_)⟩⟩) (fun hh => absurd rfl hh)
  · show Value.bool ((ba [97]).toList == (ba [97]).toList) = .bool true
    simp
  · have K : Kp (fun i => w.heap.size ≤ i) w w5 := ((((ka.wide.trans k1).trans k2).trans k3.wide).trans (k4.mono fun i _ hi => hi.1)).trans k5.wide
    exact K.mono fun i hi hh => by omega
  · simp at hh
end Go.Proofs.Ytlgkcbdpaffigaa
