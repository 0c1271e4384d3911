/- Names: what the document's directory does. -/
import Derived.Test.YtlgkcbdpaffigaaCb
namespace Go.Proofs.Ytlgkcbdpaffigaa
open Go Go.SX Go.Proofs
set_option maxRecDepth 100000
set_option linter.unusedVariables false
set_option linter.unusedSimpArgs false
def createE (l : List Ent) (a : List UInt8) : Int := if named a = false then 6 else if has Prod.fst l a = true then 16 else if 16 ≤ l.length then 14 else 0
def renameE (l : List Ent) (a b : List UInt8) : Int := if named b = false then 6 else if has Prod.fst l a = false then 7 else 0
def removeE (l : List Ent) (a : List UInt8) : Int := if has Prod.fst l a = false then 7 else 0
abbrev ptA (b o : Nat) : Value := .pointer (some ⟨b, o, none⟩)
/-- What a call leaves behind. -/
def RStep (w : World) (O : Nat → Prop) (b o : Nat) (H : List (List Ent)) (N : List Ent) (w' : World) (E : Int) (N' : List Ent) : Prop :=
  RD w' (fun i => O i ∨ w.heap.size ≤ i) b o (if E = 0 then H ++ [N] else H) (if E = 0 then N' else N) ∧ Kp O w w' ∧ Nb b o 2 w w'
theorem RStep.no {w w' : World} {O : Nat → Prop} {b o : Nat} {H : List (List Ent)} {N N' : List Ent} {E : Int} (h : RD w O b o H N) (hE : E ≠ 0) (k : Kp none_ w w') : RStep w O b o H N w' E N' := by
  unfold RStep
  rw [if_neg hE, if_neg hE]
  exact ⟨(h.kp0 k).mono fun i _ hi => .inl hi, k.wide, Nb.of_kp k h.lt.1 id⟩
theorem RStep.yes {w w1 w' : World} {O F : Nat → Prop} {b o : Nat} {H : List (List Ent)} {N N' : List Ent} (h : RD w O b o H N) (k : Kp none_ w w1) (hF : ∀ i, F i → w.heap.size ≤ i) (r : RD w' (fun i => O i ∨ F i ∨ w1.heap.size ≤ i) b o (H ++ [N]) N') (k' : Kp O w1 w') (nb : Nb b o 2 w1 w') : RStep w O b o H N w' 0 N' := by
  unfold RStep
  rw [if_pos rfl, if_pos rfl]
  have hz := k.size
  exact ⟨r.mono fun i _ hi => hi.imp id fun hh => hh.elim (hF i) fun h => by omega, k.wide.trans k', (Nb.of_kp k h.lt.1 id).trans nb⟩
theorem c78 {w : World} {O : Nat → Prop} {b o : Nat} {H : List (List Ent)} {N : List Ent} (h : RD w O b o H N) (hO : ∀ i, O i → i < w.heap.size) (hH : H.length ≤ 1000000) (hN : N.length ≤ 1000000) (a : List UInt8) (id : Int) : Rets Try.prog 78 #[ptA b o, .string (ba a), .int .i64 id] w fun v w' =>
    v = .int .i64 (createE N a) ∧ RStep w O b o H N w' (createE N a) (with5 N a id) := by
  refine ent [_, _, _] Try.func78 ((vcTry78 _ _ _ w _).mpr ?_)
  unfold VCTry78
  refine (c44 a w).mono ?_
  rintro v wx ⟨rfl, e⟩
  obtain rfl := e.symm
  have k00 : Kp none_ w w := Kp.refl _ _
  obtain ⟨q, c, e0, r0, _⟩ := h.now
  simp only [ptr_some, ad3, Nat.add_zero]
  refine ⟨_, rfl, k00.keeps0, bif_not (fun hn => ?_) (fun hn => ⟨_, _, _, e0, (c49 r0 hN a).mono ?_⟩)⟩
  · have : createE N a = 6 := by unfold createE; rw [if_pos hn]
    rw [this]
    exact ⟨_, rfl, rfl, .no h (by decide) k00⟩
  · rintro v wx ⟨e, i, rfl, hi⟩
    obtain rfl := e.symm
    refine ⟨_, rfl, k00.keeps0, bif_dec (fun hge => ?_) (fun hge => ?_)⟩
    · have hh : has Prod.fst N a = true := by
        rcases hi with ⟨rfl, _⟩ | ⟨j, hj, rfl, e⟩
        · omega
        · exact has_iff.2 ⟨_, List.getElem_mem hj, e⟩
      have : createE N a = 16 := by unfold createE; rw [if_neg (by rw [hn]; decide), if_pos hh]
      rw [this]
      exact ⟨_, rfl, rfl, .no h (by decide) k00⟩
    · have hh : has Prod.fst N a = false := by
        rcases hi with ⟨_, hh⟩ | ⟨j, hj, rfl, e⟩
        · exact hh
        · omega
      refine ⟨_, _, _, e0, bif_dec (fun hl => ?_) (fun hl => ?_)⟩
      · have : createE N a = 14 := by unfold createE; rw [if_neg (by rw [hn]; decide), if_neg (by rw [hh]; decide), if_pos (by omega)]
        rw [this]
        exact ⟨_, rfl, rfl, .no h (by decide) k00⟩
      · have : createE N a = 0 := by unfold createE; rw [if_neg (by rw [hn]; decide), if_neg (by rw [hh]; decide), if_neg (by omega)]
        rw [this]
        refine ⟨_, _, _, e0, (c103 r0 hN a id).mono ?_⟩
        rintro v w1 ⟨q1, c1, rfl, r1, k1⟩
        refine ⟨_, _, _, rfl, k1.keeps0, (c102 (h.kp0 k1) hH r1 fun i hi hh => by have := hO i hh; omega).mono ?_⟩
        rintro v w2 ⟨rfl, r2, k2, n2⟩
        exact ⟨_, rfl, Kp.keeps0 k2, _, rfl, rfl, .yes h k1 (fun i hi => hi) r2 k2 n2⟩
theorem c80 {w : World} {O : Nat → Prop} {b o : Nat} {H : List (List Ent)} {N : List Ent} (h : RD w O b o H N) (hO : ∀ i, O i → i < w.heap.size) (hH : H.length ≤ 1000000) (hN : N.length ≤ 1000000) (a : List UInt8) : Rets Try.prog 80 #[ptA b o, .string (ba a)] w fun v w' =>
    v = .int .i64 (removeE N a) ∧ RStep w O b o H N w' (removeE N a) (withoutK Prod.fst N a) := by
  refine ent [_, _] Try.func80 ((vcTry80 _ _ w _).mpr ?_)
  unfold VCTry80
  have k00 : Kp none_ w w := Kp.refl _ _
  obtain ⟨q, c, e0, r0, _⟩ := h.now
  simp only [ptr_some, ad3, Nat.add_zero]
  refine ⟨_, _, _, e0, (c49 r0 hN a).mono ?_⟩
  rintro v wx ⟨e, i, rfl, hi⟩
  obtain rfl := e.symm
  refine ⟨_, rfl, k00.keeps0, bif_dec (fun hlt => ?_) (fun hge => ?_)⟩
  · have hh : has Prod.fst N a = false := by
      rcases hi with ⟨_, hh⟩ | ⟨j, hj, rfl, e⟩
      · exact hh
      · omega
    have : removeE N a = 7 := by unfold removeE; rw [if_pos hh]
    rw [this]
    exact ⟨_, rfl, rfl, .no h (by decide) k00⟩
  · have hh : has Prod.fst N a = true := by
      rcases hi with ⟨rfl, _⟩ | ⟨j, hj, rfl, e⟩
      · omega
      · exact has_iff.2 ⟨_, List.getElem_mem hj, e⟩
    have : removeE N a = 0 := by unfold removeE; rw [if_neg (by rw [hh]; decide)]
    rw [this]
    refine ⟨_, _, _, e0, (c104 r0 hN a).mono ?_⟩
    rintro v w1 ⟨q1, c1, rfl, r1, k1⟩
    refine ⟨_, _, _, rfl, k1.keeps0, (c102 (h.kp0 k1) hH r1 fun i hi hh => by have := hO i hh; omega).mono ?_⟩
    rintro v w2 ⟨rfl, r2, k2, n2⟩
    exact ⟨_, rfl, Kp.keeps0 k2, _, rfl, rfl, .yes h k1 (fun i hi => hi) r2 k2 n2⟩
theorem c79 {w : World} {O : Nat → Prop} {b o : Nat} {H : List (List Ent)} {N : List Ent} (h : RD w O b o H N) (hO : ∀ i, O i → i < w.heap.size) (hH : H.length ≤ 1000000) (hN : N.length ≤ 1000000) (hk : NK N) (a t : List UInt8) : Rets Try.prog 79 #[ptA b o, .string (ba a), .string (ba t)] w fun v w' =>
    v = .int .i64 (renameE N a t) ∧ RStep w O b o H N w' (renameE N a t) (with5 (withoutK Prod.fst N a) t ((lookE N a).getD 0)) := by
  refine ent [_, _, _] Try.func79 ((vcTry79 _ _ _ w _).mpr ?_)
  unfold VCTry79
  refine (c44 t w).mono ?_
  rintro v wx ⟨rfl, e⟩
  obtain rfl := e.symm
  have k00 : Kp none_ w w := Kp.refl _ _
  have kd : Kp none_ w w.drew := Kp.drew1
  obtain ⟨q, c, e0, r0, _⟩ := h.now
  simp only [ptr_some, ad3, Nat.add_zero]
  refine ⟨_, rfl, k00.keeps0, bif_not (fun hn => ?_) (fun hn => ⟨_, _, _, e0, (c49 r0 hN a).mono ?_⟩)⟩
  · have : renameE N a t = 6 := by unfold renameE; rw [if_pos hn]
    rw [this]
    exact ⟨_, rfl, rfl, .no h (by decide) k00⟩
  · rintro v wx ⟨e, i, rfl, hi⟩
    obtain rfl := e.symm
    refine ⟨_, rfl, k00.keeps0, bif_dec (fun hlt => ?_) (fun hge => ?_)⟩
    · have hh : has Prod.fst N a = false := by
        rcases hi with ⟨_, hh⟩ | ⟨j, hj, rfl, e⟩
        · exact hh
        · omega
      have : renameE N a t = 7 := by unfold renameE; rw [if_neg (by rw [hn]; decide), if_pos hh]
      rw [this]
      exact ⟨_, rfl, rfl, .no h (by decide) k00⟩
    · obtain ⟨j, hj, rfl, ej⟩ : ∃ (j : Nat) (hj : j < N.length), i = j ∧ (N[j]).1 = a := by
        rcases hi with ⟨rfl, _⟩ | hi
        · omega
        · exact hi
      have hh : has Prod.fst N a = true := has_iff.2 ⟨_, List.getElem_mem hj, ej⟩
      have : renameE N a t = 0 := by unfold renameE; rw [if_neg (by rw [hn]; decide), if_neg (by rw [hh]; decide)]
      rw [this]
      have el : lookE N a = some N[j].2 := (lookE_nk hk).2 (by rw [← ej]; exact List.getElem_mem hj)
      rw [el]
      have e0d : w.drew.cell? ⟨b, o, none⟩ = some (.slice q N.length c) := e0
      refine ⟨_, _, _, e0d, _, _, _, e0d, ⟨by omega, by omega⟩, (r0.kp0 kd).get hj fun x hx hc => ⟨_, hc 1 _ rfl, (c104 (r0.kp0 kd) hN a).mono ?_⟩⟩
      rintro v w1 ⟨q1, c1, rfl, r1, k1⟩
      have k1' : Kp none_ w w1 := Kp.of_drew k1
      have hz : w.heap.size ≤ w1.heap.size := k1'.size
      have hl1 : (withoutK Prod.fst N a).length ≤ 1000000 := Nat.le_trans (List.length_filter_le _ _) hN
      refine ⟨_, _, _, rfl, k1.keeps0, k1.cell0 (hc 1 _ rfl), k1.cell0 e0d, (c103 r1.1 hl1 t N[j].2).mono ?_⟩
      rintro v w2 ⟨q2, c2, rfl, r2, k2⟩
      refine ⟨_, _, _, rfl, k2.keeps0, (c102 ((h.kp0 k1').kp0 k2) hH r2 fun i hi hh => by have := hO i hh; omega).mono ?_⟩
      rintro v w3 ⟨rfl, r3, k3, n3⟩
      exact ⟨_, rfl, Kp.keeps0 k3, _, rfl, rfl, .yes h (k1'.trans k2) (fun i hi => by omega) r3 k3 n3⟩
/-- So many changes, and no more. -/
def crashN (H : List (List Ent)) (N : List Ent) (n : Int) : List Ent := (H[n.toNat]?).getD N
theorem c81 {w : World} {O : Nat → Prop} {b o : Nat} {H : List (List Ent)} {N : List Ent} (h : RD w O b o H N) (n : Int) : Rets Try.prog 81 #[ptA b o, .int .i64 n] w fun v w' =>
    v = .tuple #[] ∧ RD w' O b o [] (crashN H N n) ∧ Kp O w w' ∧ Nb b o 2 w w' := by
  refine ent [_, _] Try.func81 ((vcTry81 _ _ w _).mpr ?_)
  unfold VCTry81
  obtain ⟨q1, c1, ps0, e10, e11, e12, e13⟩ := h.past
  obtain ⟨qn, cn, vp, own, ps, h1, h2, h3, h4, rfl, h6, h7⟩ := h
  have hb := h1.lt (by simp)
  obtain ⟨qp, cp, rfl⟩ := h6.slice
  simp only [ptr_some, ad3, Nat.add_zero]
  have e1 := h1.get 1 rfl
  obtain ⟨g1, g2⟩ := h1.slot 1 (by simp)
  have g0 := h1.slot 0 (by simp)
  obtain ⟨g3, g4⟩ := g0
  have drop : ∀ {w2 : World} {q : Option Addr} {c : Nat} {L : List Ent}, Kp (one_ b) w w2 → Cs w2 b o [.slice q L.length c, .slice none 0 0] → EIn w (fun i => O i ∧ i ≠ b ∧ ¬ own i) q L → RD w2 O b o [] L := fun {w2 q c L} k hc he => ⟨q, c, .slice none 0 0, fun _ => False, [], hc, h2, fun _ h => h.elim, he.kp entC_len (by omega) k fun i _ hi => ⟨hi.2.1, hi.1, hi.2.1, id⟩, rfl, OwnRow.nil _ _ _ _, fun p hp => by cases hp⟩
  have only : ∃ v, Ending.returned (.tuple #[]) = Ending.returned v ∧ v = .tuple #[] ∧ RD (w.setCell ⟨b, o + 1, none⟩ (.slice none 0 0)) O b o [] N ∧ Kp O w (w.setCell ⟨b, o + 1, none⟩ (.slice none 0 0)) ∧ Nb b o 2 w (w.setCell ⟨b, o + 1, none⟩ (.slice none 0 0)) :=
    ⟨_, rfl, rfl, drop (kp_set _ _ _ _) (by simpa using h1.set 1 (.slice none 0 0)) h4, (kp_set _ _ _ _).mono fun i _ hi => by have hi : i = b := hi; rw [hi]; exact h2, Nb.set w (i := 1) (by omega) _⟩
  have both : ∀ (j : Nat) (hj : j < ps.length), ∃ q c, (RowsAt w 1 pxC qp ps) ∧ (pxC ps[j] = [.slice q ps[j].l.length c]) ∧ (∃ v, Ending.returned (.tuple #[]) = Ending.returned v ∧ v = .tuple #[] ∧ RD ((w.setCell ⟨b, o, none⟩ (.slice q ps[j].l.length c)).setCell ⟨b, o + 1, none⟩ (.slice none 0 0)) O b o [] ps[j].l ∧ Kp O w ((w.setCell ⟨b, o, none⟩ (.slice q ps[j].l.length c)).setCell ⟨b, o + 1, none⟩ (.slice none 0 0)) ∧ Nb b o 2 w ((w.setCell ⟨b, o, none⟩ (.slice q ps[j].l.length c)).setCell ⟨b, o + 1, none⟩ (.slice none 0 0))) := fun j hj => by
    have kk : Kp (one_ b) w ((w.setCell ⟨b, o, none⟩ (.slice ps[j].q ps[j].l.length ps[j].c)).setCell ⟨b, o + 1, none⟩ (.slice none 0 0)) := (kp_set _ _ _ _).trans (kp_set _ _ _ _)
    have cc := (h1.set 0 (.slice ps[j].q ps[j].l.length ps[j].c)).set 1 (.slice none 0 0)
    refine ⟨ps[j].q, ps[j].c, rows_of pxC_len (by omega) h6, rfl, _, rfl, rfl, drop kk (by simpa using cc) (h7 _ (List.getElem_mem hj)), kk.mono fun i _ hi => by have hi : i = b := hi; rw [hi]; exact h2, ?_⟩
    exact (Nb.set w (i := 0) (by omega) _).trans (Nb.set _ (i := 1) (by omega) _)
  have g5 : ∀ u, (∃ v, (w.setCell ⟨b, o, none⟩ u).cell? ⟨b, o + 1, none⟩ = some v) ∧ (w.setCell ⟨b, o, none⟩ u).frozen? ⟨b, o + 1, none⟩ = false := fun u => (h1.set 0 u).slot 1 (by simp)
  have key : ∀ (j : Nat), (List.map Px.l ps)[j]? = (ps[j]?).map Px.l := fun j => List.getElem?_map
  refine bif_dec (fun hn => ?_) (fun hn => ?_)
  · have en : n.toNat = 0 := by omega
    unfold crashN
    rw [en, key]
    refine ⟨_, _, _, e1, bif_dec (fun hl => ?_) (fun hl => ?_)⟩
    · have hj : 0 < ps.length := by omega
      obtain ⟨q, c, hr, hx, hfin⟩ := both 0 hj
      rw [List.getElem?_eq_getElem hj]
      refine ⟨_, _, _, e1, ⟨by omega, by omega⟩, ?_⟩
      obtain ⟨a, ea, hc⟩ := hr 0 hj
      subst ea
      rw [ptr_some]
      have hcc := hc 0 _ (by rw [hx]; rfl)
      simp only [Nat.zero_mul, cell_add0] at hcc
      refine ⟨_, _, _, by rw [cell_add0]; exact hcc, g3, g4, (g5 _).1, (g5 _).2, hfin⟩
    · have : ps = [] := List.eq_nil_of_length_eq_zero (by omega)
      subst this
      exact ⟨g1, g2, only⟩
  · unfold crashN
    rw [key]
    refine ⟨_, _, _, e1, bif_dec (fun hl => ?_) (fun hl => ?_)⟩
    · have hj : n.toNat < ps.length := by omega
      obtain ⟨q, c, hr, hx, hfin⟩ := both n.toNat hj
      rw [List.getElem?_eq_getElem hj]
      refine ⟨_, _, _, e1, ⟨by omega, by omega⟩, ?_⟩
      obtain ⟨a, ea, hc⟩ := hr n.toNat hj
      subst ea
      rw [ptr_some]
      have hcc := hc 0 _ (by rw [hx]; rfl)
      rw [cell_add0] at hcc
      refine ⟨_, _, _, hcc, g3, g4, (g5 _).1, (g5 _).2, hfin⟩
    · rw [List.getElem?_eq_none (by omega)]
      exact ⟨g1, g2, only⟩
theorem c50 {w : World} {O : Nat → Prop} {b o : Nat} {H : List (List Ent)} {N : List Ent} (h : RD w O b o H N) (hH : H.length ≤ 1000000) (hl : ∀ l ∈ H, l.length ≤ 1000000) (hN : N.length ≤ 1000000) (id : Int) : Rets Try.prog 50 #[ptA b o, .int .i64 id] w fun v w' => w' = w ∧ v = .bool ((H ++ [N]).any fun l => idIn l id) := by
  refine ent [_, _] Try.func50 ((vcTry50 _ _ w _).mpr ?_)
  unfold VCTry50
  obtain ⟨qp, cp, ps, rfl, e1, r1, r2⟩ := h.past
  obtain ⟨qn, cn, e0, r0, _⟩ := h.now
  simp only [ptr_some, ad3, Nat.add_zero]
  have hps : ps.length ≤ 1000000 := by simpa using hH
  refine ⟨fun i w' => ∃ j : Nat, i = j ∧ j ≤ ps.length ∧ w' = w ∧ ∀ x (hx : x < ps.length), x < j → idIn (ps[x]).l id = false, fun i _ => (ps.length - i).toNat, ⟨0, rfl, by omega, rfl, fun x hx h => by omega⟩, ?_⟩
  rintro i w3 ⟨j, rfl, hj, rfl, hn⟩
  refine ⟨_, _, _, e1, bif_dec (fun h1 => ?_) (fun h1 => ⟨_, _, _, e0, (c94 r0 hN id).mono ?_⟩)⟩
  · have hjl : j < ps.length := by omega
    refine ⟨_, _, _, e1, ⟨by omega, by omega⟩, r1.get hjl fun a _ hc => ⟨_, _, _, by have := hc 0 _ rfl; rwa [cell_add0] at this, (c94 (r2 _ (List.getElem_mem hjl)) (hl _ (List.mem_map_of_mem (List.getElem_mem hjl))) id).mono ?_⟩⟩
    rintro v wx ⟨e, rfl⟩
    obtain rfl := e.symm
    refine ⟨_, rfl, (Kp.refl none_ _).keeps0, bif_b (fun ht => ⟨_, rfl, rfl, ?_⟩) (fun ht => wr64 (by omega) ⟨⟨j + 1, by omega, by omega, rfl, fun x hx hxj => ?_⟩, by first | omega | (dsimp only; omega)⟩)⟩
    · congr 1
      symm
      rw [List.any_eq_true]
      exact ⟨_, List.mem_append_left _ (List.mem_map_of_mem (List.getElem_mem hjl)), ht⟩
    · by_cases ee : x = j
      · subst ee; exact ht
      · exact hn x hx (by omega)
  · rintro v wx ⟨e, rfl⟩
    obtain rfl := e.symm
    refine ⟨_, rfl, (Kp.refl none_ _).keeps0, _, rfl, rfl, ?_⟩
    congr 1
    rw [List.any_append]
    have : ((List.map Px.l ps).any fun l => idIn l id) = false := by
      rw [List.any_eq_false]
      intro l hm
      obtain ⟨p, hp, rfl⟩ := List.mem_map.1 hm
      obtain ⟨x, hx, rfl⟩ := List.getElem_of_mem hp
      rw [hn x hx (by omega)]
      decide
    rw [this]
    simp
end Go.Proofs.Ytlgkcbdpaffigaa
