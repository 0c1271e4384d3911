/- What the row needs, part 5. -/
import Derived.Test.YtlgkcbdpaffigaaProg
import Derived.Test.YtlgkcbdpaffigaaRows
import Derived.ChangeMaps5
import Derived.Test.YtlgkcbdpaffigaaXkd
namespace Go.Proofs.Ytlgkcbdpaffigaa
open Go Go.SX Go.Proofs
set_option maxRecDepth 100000
set_option linter.unusedVariables false
set_option linter.unusedSimpArgs false
variable {w w' : World} {O O' : Nat → Prop} {b : Nat} {f : Fst}
def sumW (ds : List St) : Nat → Nat
  | 0 => 0
  | j + 1 => sumW ds j + (ds.getD j emptySt).wait.length
def tkN (ds : List St) (n j : Nat) : Nat := min n (sumW ds j)
def crDs (ds : List St) (n : Nat) (kb : Nat → Bool) (fill : Int) : Nat → List St
  | 0 => ds
  | j + 1 => (crDs ds n kb fill j).set j (crashSt (ds.getD j emptySt) (min (ds.getD j emptySt).wait.length (n - tkN ds n j)) (fun i => kb (tkN ds n j + i)) fill)
theorem crDs_len (ds : List St) (n : Nat) (kb : Nat → Bool) (fill : Int) : ∀ j, (crDs ds n kb fill j).length = ds.length
  | 0 => rfl
  | j + 1 => by
    show ((crDs ds n kb fill j).set j _).length = _
    rw [List.length_set]
    exact crDs_len ds n kb fill j
theorem crDs_get (ds : List St) (n : Nat) (kb : Nat → Bool) (fill : Int) : ∀ j i, j ≤ i → (crDs ds n kb fill j).getD i emptySt = ds.getD i emptySt
  | 0, _, _ => rfl
  | j + 1, i, h => by
    show ((crDs ds n kb fill j).set j _).getD i emptySt = _
    rw [List.getD_eq_getElem?_getD, List.getElem?_set_ne (by omega), ← List.getD_eq_getElem?_getD]
    exact crDs_get ds n kb fill j i (by omega)
theorem FSM.disksO {Ds : List Nat} {S : List Ent} {ws : List Chg} {cap k r : Int} {rl : List Int} (h : FSM w O b Ds S ws cap k r rl) : ∃ q c, w.cell? ⟨b, 0, none⟩ = some (.slice q Ds.length c) ∧ RowsAt w 1 ptC q Ds ∧ (0 < Ds.length → ∀ a, q = some a → O a.block) := by
  obtain ⟨dv, own, Od, rq, rc, h1, h2, h3, h4, h5, h6, h7, h8⟩ := h
  obtain ⟨q, c, rfl⟩ := h4.slice
  have := rwIn_of (Q := O) ptC_len (by omega) h4 fun i hi => (h7 i hi).1
  exact ⟨q, c, h1.get 0 rfl, this.1, this.2⟩
theorem FSM.setRl {Ds : List Nat} {S : List Ent} {ws : List Chg} {cap k r : Int} {rl : List Int} (h : FSM w O b Ds S ws cap k r rl) : (∃ v, w.cell? ⟨b, 7, none⟩ = some v) ∧ w.frozen? ⟨b, 7, none⟩ = false ∧ FSM (w.setCell ⟨b, 7, none⟩ (.slice none 0 0)) O b Ds S ws cap k r [] ∧ Kp (one_ b) w (w.setCell ⟨b, 7, none⟩ (.slice none 0 0)) := by
  obtain ⟨dv, own, Od, rq, rc, h1, h2, h3, h4, h5, h6, h7, h8⟩ := h
  have kk : Kp (one_ b) w (w.setCell ⟨b, 7, none⟩ (.slice none 0 0)) := kp_set _ _ _ _
  have nb : Nb b 4 4 w (w.setCell ⟨b, 7, none⟩ (.slice none 0 0)) := Nb.set w (b := b) (o := 4) (i := 3) (by omega) _
  have cc : Cs (w.setCell ⟨b, 7, none⟩ (.slice none 0 0)) b 4 [.int .i64 cap, .int .i64 k, .int .i64 r, .slice none 0 0] := h3.set 3 _
  exact ⟨(h3.slot 3 (by simp)).1, (h3.slot 3 (by simp)).2, ⟨dv, own, Od, none, 0, h1.nb kk nb (.inl (by simp)), h2.nb kk nb (.inl (by omega)), cc, h4.kp kk (fun g n cap _ hg e => by have e : g = b := e; rw [e] at hg; exact (h7 b hg).2 h2.lt.2), (fun i hi => by simp at hi), (fun h0 => by simp at h0), h7, h8⟩, kk⟩
theorem cut_add (a : Addr) (m i : Nat) : (a.add m).add i = a.add (m + i) := by
  unfold Addr.add
  by_cases hm : m = 0 <;> by_cases hi : i = 0 <;> simp [hm, hi, Nat.add_assoc]
theorem cut_bools {q : Option Addr} {n c m : Nat} {kb : Nat → Bool} (h : Bools w q n kb) (hm : m ≤ n) (hc : n ≤ c) {k : Nat} (hk : m + k ≤ n) : Bools w (cutA q c m 1) k (fun i => kb (m + i)) := fun i hi => by
  obtain ⟨a, rfl, ha⟩ := h (m + i) (by omega)
  unfold cutA
  rw [if_neg (by omega)]
  exact ⟨_, rfl, by rw [Nat.mul_one, cut_add]; exact ha⟩
theorem cut_block {q : Option Addr} {c m : Nat} {a : Addr} (h : cutA q c m 1 = some a) : ∃ a', q = some a' ∧ a'.block = a.block := by
  unfold cutA at h
  split at h
  · exact ⟨a, h, rfl⟩
  · cases q with
    | none => cases h
    | some x => cases h; exact ⟨x, rfl, (add_block _ _).symm⟩
def crashF (f : Fst) (n : Nat) (kb : Nat → Bool) (nm fill : Int) : Fst := { f with ds := crDs f.ds n kb fill f.ds.length, S := lastE f.S (f.ws.take nm.toNat), ws := [], rl := [] }
theorem c32 (h : FSD w O b f) (o : Fok f) (hO : ∀ x, O x → x < w.heap.size) {q : Option Addr} {n cp : Nat} {kb : Nat → Bool} (hcp : n ≤ cp) (hb : Bools w q n kb) (hq : 0 < n → ∀ a, q = some a → ¬ O a.block ∧ a.block < w.heap.size) (nm fill : Int) (hf : isByte fill) (hw : ∀ s ∈ f.ds, s.wait.length ≤ 90000) :
    Rets Try.prog 32 #[ptA b 0, .agg #[.slice q n cp, .int .i64 nm, .int .u8 fill]] w fun v w' => v = .tuple #[] ∧ FSD w' (fun x => O x ∨ w.heap.size ≤ x) b (crashF f n kb nm fill) ∧ Kp O w w' := by
  refine ent [_, _] Try.func32 ((vcTry32 _ _ _ _ _ _ w _).mpr ?_)
  unfold VCTry32
  have lb := h.lt
  obtain ⟨Ds, Of, h1, h2, h3⟩ := h
  have hlen := h2.len
  have hdl := o.dsl
  have ka : Kp none_ w (w.alloc (.cells #[.slice q n cp, .int .i64 nm, .int .u8 fill] 53)) := (Kp.refl none_ _).alloc1 _
  have za : (w.alloc (.cells #[.slice q n cp, .int .i64 nm, .int .u8 fill] 53)).heap.size = w.heap.size + 1 := alloc_size _ _
  generalize w.alloc (.cells #[.slice q n cp, .int .i64 nm, .int .u8 fill] 53) = wa at *
  refine bif_b (fun hh => by cases hh) (fun _ => ?_)
  obtain ⟨q1, c1, e1, r1, f1⟩ := (h1.kp0 ka).disksO
  simp only [ptr_some, ad3, Nat.zero_add, Nat.add_zero]
  have nS : ∀ {x : Nat}, O x ∨ wa.heap.size ≤ x → x ≠ w.heap.size := fun {x} hx e => by
    rcases hx with hx | hx
    · have := hO x hx; omega
    · omega
  refine ⟨_, _, _, e1, fun i q7 n8 n9 w' => ∃ j : Nat, i = j ∧ j ≤ f.ds.length ∧ n8 = n - tkN f.ds n j ∧ n8 ≤ n9 ∧ FSM w' Of b Ds f.S f.ws f.cap f.k f.r f.rl ∧ Dks Dsk w' (fun x => (O x ∨ wa.heap.size ≤ x) ∧ ¬ Of x) Ds (crDs f.ds n kb fill j) ∧ RowsAt w' 1 ptC q1 Ds ∧ Bools w' q7 n8 (fun i => kb (tkN f.ds n j + i)) ∧ (0 < n8 → ∀ a, q7 = some a → ¬ O a.block ∧ a.block < w.heap.size) ∧ Kp O w w' ∧ wa.heap.size ≤ w'.heap.size, fun i _ _ _ _ => (f.ds.length - i).toNat, ⟨0, rfl, by omega, by simp [tkN, sumW], hcp, h1.kp0 ka, h2.kp pkD ka fun x hl hx => ⟨id, .inl hx.1, hx.2⟩, r1, ?_, hq, ka.wide, Nat.le_refl _⟩, ?_⟩
  · have : (fun i => kb (tkN f.ds n 0 + i)) = kb := by funext i; simp [tkN, sumW]
    rw [this]
    exact hb.kp ka fun _ _ _ => id
  rintro i q7 n8 n9 w1 ⟨j, rfl, hj, hn8, hn9, m1, m2, m3, m4, m5, k1, z1⟩ _
  refine bif_dec (fun hi => ?_) (fun hi => ?_)
  · have hjl : j < f.ds.length := by omega
    have hjD : j < Ds.length := by omega
    refine ⟨⟨by omega, hi⟩, m3.get hjD fun a ea hc => ⟨_, (cell_add0 _ _).symm.trans (hc 0 _ rfl), fun _ => ?_⟩⟩
    obtain ⟨col, p, cO, put⟩ := m2.at pkD (i := j) (by rw [crDs_len]; exact hjl)
    have eD : Ds.getD j 0 = Ds[j] := by rw [List.getD_eq_getElem?_getD, List.getElem?_eq_getElem hjD]; rfl
    rw [eD] at p put
    rw [crDs_get _ _ _ _ _ _ (Nat.le_refl j)] at p
    have hmem : f.ds.getD j emptySt ∈ f.ds := List.mem_of_getElem? (getD_get f.ds emptySt hjl)
    have hwl := hw _ hmem
    have noS : ¬ ownC col w.heap.size := fun hh => nS (cO _ hh).1 rfl
    have hsz : w.heap.size < w1.heap.size := by omega
    refine (c21 p).mono ?_
    rintro v w2 ⟨rfl, e⟩
    obtain rfl := e.symm
    have em : (minI ((f.ds.getD j emptySt).wait.length : Int) (n8 : Int)).toNat = min (f.ds.getD j emptySt).wait.length n8 := by unfold minI; split <;> omega
    have em2 : 0 ≤ minI ((f.ds.getD j emptySt).wait.length : Int) (n8 : Int) ∧ minI ((f.ds.getD j emptySt).wait.length : Int) (n8 : Int) ≤ n8 := by unfold minI; split <;> omega
    have e0 : (fun i => (fun i => kb (tkN f.ds n j + i)) (0 + i)) = fun i => kb (tkN f.ds n j + i) := by funext i; simp
    have hcut := cut_bools (m := 0) (k := min (f.ds.getD j emptySt).wait.length n8) m4 (by omega) hn9 (by omega)
    rw [e0] at hcut
    refine ⟨_, rfl, (Kp.refl none_ _).keeps fun x hx => ⟨by rw [List.mem_singleton] at hx; omega, id⟩, ⟨em2.1, by omega⟩, fun _ => ?_⟩
    rw [em, Nat.sub_zero, Nat.sub_zero]
    have k0 : Kp none_ w1 w1.drew := Kp.drew1
    refine (c19 (p.kp0 k0) (hcut.kp k0 fun _ _ _ => id) (fun h0 a e => ?_) fill hf (by omega)).mono ?_
    · obtain ⟨a', e', hb'⟩ := cut_block e
      have := m5 (by omega) a' e'
      rw [hb'] at this
      by_cases ec : col a.block = 0
      · exact ec
      · rcases (cO _ ec).1 with hh | hh
        · exact absurd hh this.1
        · omega
    · rintro v w3 ⟨rfl, k3, col', g3, p3⟩
      have kk := (k0.wide (S := ownC col)).trans k3
      have zz := kk.size
      have P3 := put kk ⟨fun i hi => g3.1 i hi, g3.2⟩ p3
      refine ⟨rfl, k3.keeps fun x hx => ⟨by rw [List.mem_singleton] at hx; show x < w1.heap.size; omega, by rw [List.mem_singleton] at hx; rw [hx]; exact noS⟩, ⟨em2.1, em2.2⟩, wr64 (by omega) ⟨rfl, ⟨j + 1, by omega, by omega, ?_, by omega, ?_, ?_, ?_, ?_, ?_, ?_, by omega⟩, by first | omega | (dsimp only; omega)⟩⟩
      · show _ = n - min n (sumW f.ds j + (f.ds.getD j emptySt).wait.length)
        unfold tkN at hn8
        omega
      · exact m1.kp kk fun x hl hx => ⟨fun hh => (cO x hh).2 hx, hx⟩
      · have : crDs f.ds n kb fill (j + 1) = (crDs f.ds n kb fill j).set j (crashSt (f.ds.getD j emptySt) (min (f.ds.getD j emptySt).wait.length n8) (fun i => kb (tkN f.ds n j + i)) fill) := by rw [hn8]; rfl
        rw [this]
        exact P3.kp pkD (Kp.refl none_ _) fun x hl hx => ⟨id, by
          rcases hx with hx | hx
          · exact hx
          · exact ⟨.inr (by omega), fun hh => by have := hO x (h3 x hh); omega⟩⟩
      · exact m3.kp kk fun h0 a e hh => (cO _ hh).2 (f1 h0 a e)
      · have hc2 := cut_bools (m := min (f.ds.getD j emptySt).wait.length n8) (k := n8 - min (f.ds.getD j emptySt).wait.length n8) m4 (by omega) hn9 (by omega)
        have ef : (fun i => kb (tkN f.ds n (j + 1) + i)) = fun i => (fun i => kb (tkN f.ds n j + i)) (min (f.ds.getD j emptySt).wait.length n8 + i) := by
          funext i
          have : tkN f.ds n (j + 1) = tkN f.ds n j + min (f.ds.getD j emptySt).wait.length n8 := by
            rw [hn8]
            show min n (sumW f.ds j + (f.ds.getD j emptySt).wait.length) = min n (sumW f.ds j) + min _ (n - min n (sumW f.ds j))
            omega
          rw [this, Nat.add_assoc]
        rw [ef]
        refine hc2.kp kk fun h0 a e hh => ?_
        obtain ⟨a', e', hb'⟩ := cut_block e
        have := m5 (by omega) a' e'
        rw [hb'] at this
        rcases (cO _ hh).1 with hx | hx
        · exact this.1 hx
        · omega
      · intro h0 a e
        obtain ⟨a', e', hb'⟩ := cut_block e
        have := m5 (by omega) a' e'
        rw [hb'] at this
        exact this
      · exact k1.then kk fun x hx hh => by
          rcases (cO x hh).1 with hy | hy
          · exact hy
          · omega
  · have ej : j = f.ds.length := by omega
    subst ej
    have k0 : Kp none_ w1 w1.drew := Kp.drew1
    have F1 : FSD w1.drew (fun x => O x ∨ (wa.heap.size ≤ x ∧ x < w1.heap.size)) b { f with ds := crDs f.ds n kb fill f.ds.length } := ⟨Ds, Of, m1.kp0 k0, m2.kp pkD k0 fun x hl hx => ⟨id, hx.1.imp id fun hh => ⟨hh, hl⟩, hx.2⟩, fun x hx => .inl (h3 x hx)⟩
    obtain ⟨Od, d, dO, go⟩ := F1.dirOp fun x hx => by
      show x < w1.heap.size
      rcases hx with hx | hx
      · have := hO x hx; omega
      · exact hx.2
    intro _
    refine (c40 d (fun i hi => ?_) o.wf o.ok (by have := o.wsl; show f.ws.length ≤ _; omega) nm).mono ?_
    · show i < w1.heap.size
      rcases dO i hi with hx | hx
      · have := hO i hx; omega
      · exact hx.2
    rintro v w2 ⟨rfl, d2, k2, n2⟩
    have z2 : w1.heap.size ≤ w2.heap.size := k2.size
    obtain ⟨Ds', Of', x1, x2, x3⟩ := go d2 k2 n2
    obtain ⟨y1, y2, y3, y4⟩ := x1.setRl
    refine ⟨rfl, k2.keeps fun x hx => ⟨by rw [List.mem_singleton] at hx; show x < w1.heap.size; omega, fun hh => ?_⟩, y1, y2, .inl fun e => by have e : b = w.heap.size := e; omega, fun _ => ⟨_, rfl, rfl, ?_, ?_⟩⟩
    · rw [List.mem_singleton] at hx
      subst hx
      rcases dO _ hh with hy | hy
      · have := hO _ hy; omega
      · omega
    · have G : FSD _ (fun x => (O x ∨ (wa.heap.size ≤ x ∧ x < w1.heap.size)) ∨ w1.drew.heap.size ≤ x) b (crashF f n kb nm fill) := ⟨Ds', Of', y3, x2.kp pkD y4 fun x hl hx => ⟨fun e => hx.2 (by have e : x = b := e; rw [e]; exact x1.lt.2), hx⟩, x3⟩
      refine G.kp (Kp.refl none_ _) fun x hl hx => ⟨id, ?_⟩
      rcases hx with (hx | hx) | hx
      · exact .inl hx
      · exact .inr (by omega)
      · exact .inr (by have hx : w1.heap.size ≤ x := hx; omega)
    · refine (k1.drew.then k2 fun x hx hh => ?_).trans (y4.mono fun x _ hx => by have hx : x = b := hx; rw [hx]; exact lb.2)
      rcases dO x hh with hy | hy
      · exact hy
      · omega
end Go.Proofs.Ytlgkcbdpaffigaa

namespace Go.Proofs.Ytlgkcbdpaffigaa
open Go Go.SX Go.Proofs
set_option maxRecDepth 100000
set_option linter.unusedVariables false
set_option linter.unusedSimpArgs false
theorem named_ne {s : List UInt8} (h : named s = true) : s ≠ [] := fun e => by
  subst e
  simp [named] at h
theorem named_len {s : List UInt8} (h : named s = true) : 1 ≤ s.length ∧ s.length ≤ 100 := of_decide_eq_true h
theorem create_ok {l : List Ent} (h : WfE l) {a : List UInt8} (hc : createE l a = 0) (id : Int) : okC l ⟨[], a, id⟩ ∧ with5 l a id = doL l ⟨[], a, id⟩ := by
  unfold createE at hc
  split at hc
  · cases hc
  · split at hc
    · cases hc
    · split at hc
      · cases hc
      · rename_i h1 h2 h3
        have hn : named a = true := by simpa using h1
        have hh : has Prod.fst l a = false := by simpa using h2
        refine ⟨.inl ⟨rfl, named_len hn, hh, by show l.length < 16; omega⟩, ?_⟩
        rw [with5_eq h.asc]
        unfold doL
        rw [if_neg (named_ne hn)]
        have e1 : withoutK Prod.fst l [] = l := without_none h.no_empty
        have e2 : lookE l [] = none := by
          have := look_has (l := l) (s := [])
          rw [h.no_empty] at this
          cases hl : lookE l [] with
          | none => rfl
          | some _ => rw [hl] at this; cases this
        rw [e1, e2]
        rfl
theorem rename_ok {l : List Ent} (h : WfE l) {a b : List UInt8} (hc : renameE l a b = 0) : okC l ⟨a, b, 0⟩ ∧ with5 (withoutK Prod.fst l a) b ((lookE l a).getD 0) = doL l ⟨a, b, 0⟩ := by
  unfold renameE at hc
  split at hc
  · cases hc
  · split at hc
    · cases hc
    · rename_i h1 h2
      have hn : named b = true := by simpa using h1
      have hh : has Prod.fst l a = true := by simpa using h2
      refine ⟨.inr ⟨hh, .inr (named_len hn)⟩, ?_⟩
      rw [with5_eq (asc_without h.asc a)]
      unfold doL
      rw [if_neg (named_ne hn)]
theorem remove_ok {l : List Ent} {a : List UInt8} (hc : removeE l a = 0) : okC l ⟨a, [], 0⟩ ∧ withoutK Prod.fst l a = doL l ⟨a, [], 0⟩ := by
  unfold removeE at hc
  split at hc
  · cases hc
  · rename_i h1
    exact ⟨.inr ⟨by simpa using h1, .inl rfl⟩, by unfold doL; rw [if_pos rfl]⟩
/-- What all was, and is. -/
structure Hst (S : List Ent) (ws : List Chg) (H : List (List Ent)) (N : List Ent) : Prop where
  wf : WfE S
  ok : okCs S ws
  all : H ++ [N] = sts S ws
theorem Hst.len {S : List Ent} {ws : List Chg} {H : List (List Ent)} {N : List Ent} (h : Hst S ws H N) : H.length = ws.length := by
  have := congrArg List.length h.all
  rw [sts_len] at this
  simpa using this
theorem Hst.last {S : List Ent} {ws : List Chg} {H : List (List Ent)} {N : List Ent} (h : Hst S ws H N) : N = lastE S ws := by
  have h1 := sts_get S ws ws.length (Nat.le_refl _)
  rw [← h.all, List.take_length, ← h.len, List.getElem?_append_right (Nat.le_refl _)] at h1
  simpa using h1
theorem Hst.wfN {S : List Ent} {ws : List Chg} {H : List (List Ent)} {N : List Ent} (h : Hst S ws H N) : WfE N := by
  rw [h.last]; exact wf_last h.wf h.ok
theorem Hst.wfH {S : List Ent} {ws : List Chg} {H : List (List Ent)} {N : List Ent} (h : Hst S ws H N) : ∀ l ∈ H, WfE l := fun l hl => by
  obtain ⟨i, hi, e⟩ := List.getElem_of_mem hl
  have h1 := sts_get S ws i (by rw [← h.len]; omega)
  rw [← h.all, List.getElem?_append_left hi, List.getElem?_eq_getElem hi, e] at h1
  rw [Option.some.inj h1]
  exact wf_last h.wf (okCs_take h.ok i)
theorem Hst.snoc {S : List Ent} {ws : List Chg} {H : List (List Ent)} {N : List Ent} (h : Hst S ws H N) {c : Chg} (hc : okC N c) : Hst S (ws ++ [c]) (H ++ [N]) (doL N c) :=
  ⟨h.wf, okCs_snoc.2 ⟨h.ok, by rw [← h.last]; exact hc⟩, by rw [h.all, sts_snoc, h.last]⟩
theorem Hst.sync {S : List Ent} {ws : List Chg} {H : List (List Ent)} {N : List Ent} (h : Hst S ws H N) : Hst (lastE S ws) [] [] N := ⟨wf_last h.wf h.ok, trivial, by rw [h.last]; rfl⟩
theorem Hst.crash {S : List Ent} {ws : List Chg} {H : List (List Ent)} {N : List Ent} (h : Hst S ws H N) (n : Int) : Hst (lastE S (ws.take n.toNat)) [] [] (crashN H N n) := by
  refine ⟨wf_last h.wf (okCs_take h.ok _), trivial, ?_⟩
  have : crashN H N n = lastE S (ws.take n.toNat) := by
    unfold crashN
    by_cases hn : n.toNat < H.length
    · have h1 := sts_get S ws n.toNat (by rw [← h.len]; omega)
      rw [← h.all, List.getElem?_append_left hn] at h1
      rw [h1]; rfl
    · rw [List.getElem?_eq_none (by omega), List.take_of_length_le (by rw [← h.len]; omega)]
      exact h.last
  rw [this]
  rfl
/-- Nothing has been. -/
theorem RD.clear {w : World} {O : Nat → Prop} {b o : Nat} {H : List (List Ent)} {N : List Ent} (h : RD w O b o H N) : (∃ v, w.cell? ⟨b, o + 1, none⟩ = some v) ∧ w.frozen? ⟨b, o + 1, none⟩ = false ∧ RD (w.setCell ⟨b, o + 1, none⟩ (.slice none 0 0)) O b o [] N ∧ Kp O w (w.setCell ⟨b, o + 1, none⟩ (.slice none 0 0)) ∧ O b := by
  obtain ⟨qn, cn, vp, own, ps, h1, h2, h3, h4, h5, h6, h7⟩ := h
  have hb := h1.lt (by simp)
  obtain ⟨g1, g2⟩ := h1.slot 1 (by simp)
  exact ⟨g1, g2, ⟨qn, cn, .slice none 0 0, fun _ => False, [], by simpa using h1.set 1 (.slice none 0 0), h2, fun _ h => h.elim, h4.kp entC_len (by omega) (kp_set _ _ _ _) fun i _ hi => ⟨hi.2.1, hi.1, hi.2.1, id⟩, rfl, OwnRow.nil _ _ _ _, fun p hp => by cases hp⟩, (kp_set _ _ _ _).mono fun i _ hi => by have hi : i = b := hi; rw [hi]; exact h2, h2⟩
/-- Both directories in memory. -/
def Two (w : World) (Q : Nat → Prop) (bd bm : Nat) (st : List Ent × List Chg) : Prop :=
  ∃ (Od Om : Nat → Prop) (H : List (List Ent)) (N : List Ent), DR w Od bd 0 st.1 st.2 ∧ RD w Om bm 0 H N ∧ (∀ i, Od i → ¬ Om i) ∧ (∀ i, Od i ∨ Om i → Q i ∧ i < w.heap.size) ∧ Hst st.1 st.2 H N
theorem Two.kp {S' Q Q' : Nat → Prop} {w w' : World} {bd bm : Nat} {st : List Ent × List Chg} (h : Two w Q bd bm st) (k : Kp S' w w') (hs : ∀ i, i < w.heap.size → Q i → ¬ S' i ∧ Q' i) : Two w' Q' bd bm st := by
  obtain ⟨Od, Om, H, N, h1, h2, h3, h4, h5⟩ := h
  exact ⟨Od, Om, H, N, h1.kp k fun i hl hi => ⟨(hs i hl (h4 i (.inl hi)).1).1, hi⟩, h2.kp k fun i hl hi => ⟨(hs i hl (h4 i (.inr hi)).1).1, hi⟩, h3, fun i hi => ⟨(hs i (h4 i hi).2 (h4 i hi).1).2, Nat.lt_of_lt_of_le (h4 i hi).2 k.size⟩, h5⟩
theorem Two.kp0 {Q : Nat → Prop} {w w' : World} {bd bm : Nat} {st : List Ent × List Chg} (h : Two w Q bd bm st) (k : Kp none_ w w') : Two w' Q bd bm st := h.kp k fun i _ hi => ⟨id, hi⟩
end Go.Proofs.Ytlgkcbdpaffigaa

namespace Go.Proofs.Ytlgkcbdpaffigaa
open Go Go.SX Go.Proofs
set_option maxRecDepth 100000
set_option linter.unusedVariables false
def VCTry25 (p0 : Int) (w : World) (R : Ending → World → Prop) : Prop :=
bif decide (p0 < (0 : Int)) then
 Known
   (w.alloc
    (Obj.cells
     #[Value.slice none (0 : Nat) (0 : Nat), Value.slice none (0 : Nat) (0 : Nat), Value.slice none (0 : Nat) (0 : Nat), Value.int IntKind.i64 (0 : Int), Value.int IntKind.i64 (0 : Int),
      Value.int IntKind.i64 (0 : Int), Value.slice none (0 : Nat) (0 : Nat)]
     (125 : Nat)))
   [(w.heap.size,
     [((0 : Nat), Value.slice none (0 : Nat) (0 : Nat)), ((1 : Nat), Value.slice none (0 : Nat) (0 : Nat)), ((2 : Nat), Value.slice none (0 : Nat) (0 : Nat)), ((3 : Nat), Value.int IntKind.i64 (0 : Int)),
      ((4 : Nat), Value.int IntKind.i64 (0 : Int)), ((5 : Nat), Value.int IntKind.i64 (0 : Int)), ((6 : Nat), Value.slice none (0 : Nat) (0 : Nat))])] →
  R (Ending.returned (Value.pointer (some { block := w.heap.size, off := (0 : Nat) })))
   (w.alloc
    (Obj.cells
     #[Value.slice none (0 : Nat) (0 : Nat), Value.slice none (0 : Nat) (0 : Nat), Value.slice none (0 : Nat) (0 : Nat), Value.int IntKind.i64 (0 : Int), Value.int IntKind.i64 (0 : Int),
      Value.int IntKind.i64 (0 : Int), Value.slice none (0 : Nat) (0 : Nat)]
     (125 : Nat)))
else
 bif decide (p0 > (65536 : Int)) then
  Known
    (w.alloc
     (Obj.cells
      #[Value.slice none (0 : Nat) (0 : Nat), Value.slice none (0 : Nat) (0 : Nat), Value.slice none (0 : Nat) (0 : Nat), Value.int IntKind.i64 (65536 : Int), Value.int IntKind.i64 (0 : Int),
       Value.int IntKind.i64 (0 : Int), Value.slice none (0 : Nat) (0 : Nat)]
      (125 : Nat)))
    [(w.heap.size,
      [((0 : Nat), Value.slice none (0 : Nat) (0 : Nat)), ((1 : Nat), Value.slice none (0 : Nat) (0 : Nat)), ((2 : Nat), Value.slice none (0 : Nat) (0 : Nat)), ((3 : Nat), Value.int IntKind.i64 (65536 : Int)),
       ((4 : Nat), Value.int IntKind.i64 (0 : Int)), ((5 : Nat), Value.int IntKind.i64 (0 : Int)), ((6 : Nat), Value.slice none (0 : Nat) (0 : Nat))])] →
   R (Ending.returned (Value.pointer (some { block := w.heap.size, off := (0 : Nat) })))
    (w.alloc
     (Obj.cells
      #[Value.slice none (0 : Nat) (0 : Nat), Value.slice none (0 : Nat) (0 : Nat), Value.slice none (0 : Nat) (0 : Nat), Value.int IntKind.i64 (65536 : Int), Value.int IntKind.i64 (0 : Int),
       Value.int IntKind.i64 (0 : Int), Value.slice none (0 : Nat) (0 : Nat)]
      (125 : Nat)))
 else
  Known
    (w.alloc
     (Obj.cells
      #[Value.slice none (0 : Nat) (0 : Nat), Value.slice none (0 : Nat) (0 : Nat), Value.slice none (0 : Nat) (0 : Nat), Value.int IntKind.i64 p0, Value.int IntKind.i64 (0 : Int), Value.int IntKind.i64 (0 : Int),
       Value.slice none (0 : Nat) (0 : Nat)]
      (125 : Nat)))
    [(w.heap.size,
      [((0 : Nat), Value.slice none (0 : Nat) (0 : Nat)), ((1 : Nat), Value.slice none (0 : Nat) (0 : Nat)), ((2 : Nat), Value.slice none (0 : Nat) (0 : Nat)), ((3 : Nat), Value.int IntKind.i64 p0),
       ((4 : Nat), Value.int IntKind.i64 (0 : Int)), ((5 : Nat), Value.int IntKind.i64 (0 : Int)), ((6 : Nat), Value.slice none (0 : Nat) (0 : Nat))])] →
   R (Ending.returned (Value.pointer (some { block := w.heap.size, off := (0 : Nat) })))
    (w.alloc
     (Obj.cells
      #[Value.slice none (0 : Nat) (0 : Nat), Value.slice none (0 : Nat) (0 : Nat), Value.slice none (0 : Nat) (0 : Nat), Value.int IntKind.i64 p0, Value.int IntKind.i64 (0 : Int), Value.int IntKind.i64 (0 : Int),
       Value.slice none (0 : Nat) (0 : Nat)]
      (125 : Nat)))
theorem vcTry25 (p0 : Int) (w : World) (R : Ending → World → Prop) : SX.vcFn Try.prog [] Try.f25 [.v (.int .i64 p0)] [] w R = VCTry25 p0 w R := by kernel_rfl
def VCTry68 (p0 : Option Addr) (p1 : ByteArray) (w : World) (R : Ending → World → Prop) : Prop :=
Rets Try.prog (99 : Nat) #[Value.pointer p0] w fun (v0 : Value) (w1 : World) =>
 ∃ (t2 : Bool),
  v0 = Value.bool t2 ∧
   Keeps w w1 [] ∧
    bif !t2 then R (Ending.returned (Value.tuple #[Value.int IntKind.i64 (0 : Int), Value.int IntKind.i64 (10 : Int)])) w1
    else
     SX.Ptr p0 fun (a3 : Addr) =>
      ∃ (q4 : Option Addr),
       ∃ (n5 : Nat),
        ∃ (n6 : Nat),
         w1.cell? (a3.add (0 : Nat)) = some (Value.slice q4 n5 n6) ∧
          bif decide ((↑n5 : Int) ≥ (1000 : Int)) then R (Ending.returned (Value.tuple #[Value.int IntKind.i64 (0 : Int), Value.int IntKind.i64 (14 : Int)])) w1
          else
           SX.Ptr p0 fun (a7 : Addr) =>
            SX.Ptr p0 fun (a8 : Addr) =>
             ∃ (q9 : Option Addr),
              ∃ (n10 : Nat),
               ∃ (n11 : Nat),
                w1.drew.cell? (a8.add (0 : Nat)) = some (Value.slice q9 n10 n11) ∧
                 Rets Try.prog (78 : Nat) #[Value.pointer (some (a7.add (1 : Nat))), Value.string p1, Value.int IntKind.i64 (↑n10 : Int)] w1.drew fun (v12 : Value) (w13 : World) =>
                  ∃ (i14 : Int),
                   v12 = Value.int IntKind.i64 i14 ∧
                    Keeps w1.drew w13 [] ∧
                     bif i14 != (0 : Int) then R (Ending.returned (Value.tuple #[Value.int IntKind.i64 (0 : Int), Value.int IntKind.i64 i14])) w13
                     else
                      SX.Ptr p0 fun (a15 : Addr) =>
                       ∃ (q16 : Option Addr),
                        ∃ (n17 : Nat),
                         ∃ (n18 : Nat),
                          w13.cell? (a15.add (0 : Nat)) = some (Value.slice q16 n17 n18) ∧
                           Runs Try.prog
                            (Builtin.append_ #[(123 : Nat), (123 : Nat)] (123 : Nat)
                             #[Value.slice q16 n17 n18,
                              Value.slice
                               (some
                                {
                                 block :=
                                  (w13.alloc
                                     (Obj.cells
                                      #[Value.slice none (0 : Nat) (0 : Nat), Value.slice none (0 : Nat) (0 : Nat), Value.slice none (0 : Nat) (0 : Nat),
                                       Value.slice none (0 : Nat) (0 : Nat)]
                                      (34 : Nat))).heap.size,
                                 off := (0 : Nat) })
                               (1 : Nat) (1 : Nat)])
                            ((w13.alloc
                               (Obj.cells
                                #[Value.slice none (0 : Nat) (0 : Nat), Value.slice none (0 : Nat) (0 : Nat), Value.slice none (0 : Nat) (0 : Nat), Value.slice none (0 : Nat) (0 : Nat)]
                                (34 : Nat))).alloc
                             (Obj.cells #[Value.pointer (some { block := w13.heap.size, off := (0 : Nat) })] (37 : Nat)))
                            fun (v19 : Value) (w20 : World) =>
                            ∃ (q21 : Option Addr),
                             ∃ (n22 : Nat),
                              ∃ (n23 : Nat),
                               v19 = Value.slice q21 n22 n23 ∧
                                Keeps
                                  ((w13.alloc
                                     (Obj.cells
                                      #[Value.slice none (0 : Nat) (0 : Nat), Value.slice none (0 : Nat) (0 : Nat), Value.slice none (0 : Nat) (0 : Nat),
                                       Value.slice none (0 : Nat) (0 : Nat)]
                                      (34 : Nat))).alloc
                                   (Obj.cells #[Value.pointer (some { block := w13.heap.size, off := (0 : Nat) })] (37 : Nat)))
                                  w20 [w13.heap.size] ∧
                                 SX.Ptr p0 fun (a24 : Addr) =>
                                  (∃ (v25 : Value), w20.cell? ((a24.add (0 : Nat)).add (0 : Nat)) = some v25) ∧
                                   w20.frozen? ((a24.add (0 : Nat)).add (0 : Nat)) = false ∧
                                    Apart ((a24.add (0 : Nat)).add (0 : Nat)) w13.heap.size [(0 : Nat), (1 : Nat), (2 : Nat), (3 : Nat)] ∧
                                     SX.Ptr p0 fun (a26 : Addr) =>
                                      ∃ (q27 : Option Addr),
                                       ∃ (n28 : Nat),
                                        ∃ (n29 : Nat),
                                         (w20.setCell ((a24.add (0 : Nat)).add (0 : Nat)) (Value.slice q21 n22 n23)).cell? (a26.add (0 : Nat)) = some (Value.slice q27 n28 n29) ∧
                                          Wr IntKind.i64 ((↑n28 : Int) - (1 : Int)) fun (i30 : Int) =>
                                           Known (w20.setCell ((a24.add (0 : Nat)).add (0 : Nat)) (Value.slice q21 n22 n23))
                                             [(w13.heap.size,
                                              [((0 : Nat), Value.slice none (0 : Nat) (0 : Nat)), ((1 : Nat), Value.slice none (0 : Nat) (0 : Nat)),
                                               ((2 : Nat), Value.slice none (0 : Nat) (0 : Nat)), ((3 : Nat), Value.slice none (0 : Nat) (0 : Nat))])] →
                                            R (Ending.returned (Value.tuple #[Value.int IntKind.i64 i30, Value.int IntKind.i64 (0 : Int)]))
                                             (w20.setCell ((a24.add (0 : Nat)).add (0 : Nat)) (Value.slice q21 n22 n23))
theorem vcTry68 (p0 : Option Addr) (p1 : ByteArray) (w : World) (R : Ending → World → Prop) : SX.vcFn Try.prog [] Try.f68 [.v (.pointer p0), .v (.string p1)] [] w R = VCTry68 p0 p1 w R := by kernel_rfl
def VCTry69 (p0 : Option Addr) (p1 : Int) (p2 : Int) (p3 : Option Addr) (n3 c3 : Nat) (w : World) (R : Ending → World → Prop) : Prop :=
Rets Try.prog (99 : Nat) #[Value.pointer p0] w fun (v0 : Value) (w1 : World) =>
 ∃ (t2 : Bool),
  v0 = Value.bool t2 ∧
   Keeps w w1 [] ∧
    bif !t2 then R (Ending.returned (Value.int IntKind.i64 (10 : Int))) w1
    else
     Rets Try.prog (100 : Nat) #[Value.pointer p0, Value.int IntKind.i64 p1] w1 fun (v3 : Value) (w4 : World) =>
      ∃ (t5 : Bool),
       v3 = Value.bool t5 ∧
        Keeps w1 w4 [] ∧
         bif !t5 then R (Ending.returned (Value.int IntKind.i64 (1 : Int))) w4
         else
          Rets Try.prog (95 : Nat) #[Value.int IntKind.i64 p2, Value.int IntKind.i64 (↑n3 : Int)] w4 fun (v6 : Value) (w7 : World) =>
           ∃ (t8 : Bool),
            v6 = Value.bool t8 ∧
             Keeps w4 w7 [] ∧
              bif !t8 then R (Ending.returned (Value.int IntKind.i64 (1 : Int))) w7
              else
               SX.Ptr p0 fun (a9 : Addr) =>
                ∃ (q10 : Option Addr),
                 ∃ (n11 : Nat),
                  ∃ (n12 : Nat),
                   w7.cell? (a9.add (0 : Nat)) = some (Value.slice q10 n11 n12) ∧
                    ((0 : Int) ≤ p1 ∧ p1 < (↑n11 : Int)) ∧
                     SX.Ptr q10 fun (a13 : Addr) =>
                      ∃ (q14 : Option Addr),
                       w7.cell? (a13.add (p1.toNat * (1 : Nat))) = some (Value.pointer q14) ∧
                        SX.Ptr q14 fun (a15 : Addr) =>
                         ∃ (q16 : Option Addr),
                          ∃ (n17 : Nat),
                           ∃ (n18 : Nat),
                            w7.drew.cell? (a15.add (0 : Nat)) = some (Value.slice q16 n17 n18) ∧
                             Rets Try.prog (96 : Nat) #[Value.pointer q14, Value.int IntKind.i64 p2, Value.int IntKind.i64 (↑n3 : Int)] w7.drew fun (v19 : Value) (w20 : World) =>
                              ∃ (i21 : Int),
                               v19 = Value.int IntKind.i64 i21 ∧
                                Keeps w7.drew w20 [] ∧
                                 w20.cell? (a15.add (0 : Nat)) = some (Value.slice q16 n17 n18) ∧
                                  Wr IntKind.i64 (i21 - (↑n17 : Int)) fun (i22 : Int) =>
                                   bif decide (i22 > (0 : Int)) then
                                    SX.Ptr p0 fun (a23 : Addr) =>
                                     ∃ (i24 : Int),
                                      w20.drew.cell? (a23.add (3 : Nat)) = some (Value.int IntKind.i64 i24) ∧
                                       Rets Try.prog (101 : Nat) #[Value.pointer p0] w20.drew fun (v25 : Value) (w26 : World) =>
                                        ∃ (i27 : Int),
                                         v25 = Value.int IntKind.i64 i27 ∧
                                          Keeps w20.drew w26 [] ∧
                                           w26.cell? (a23.add (3 : Nat)) = some (Value.int IntKind.i64 i24) ∧
                                            Wr IntKind.i64 (i27 + i22) fun (i28 : Int) =>
                                             bif decide (i28 > i24) then
                                              SX.Ptr p0 fun (a29 : Addr) =>
                                               ∃ (i30 : Int),
                                                w26.cell? (a29.add (5 : Nat)) = some (Value.int IntKind.i64 i30) ∧
                                                 Wr IntKind.i64 (i30 + (1 : Int)) fun (i31 : Int) =>
                                                  SX.Ptr p0 fun (a32 : Addr) =>
                                                   (∃ (v33 : Value), w26.cell? ((a32.add (5 : Nat)).add (0 : Nat)) = some v33) ∧
                                                    w26.frozen? ((a32.add (5 : Nat)).add (0 : Nat)) = false ∧
                                                     R (Ending.returned (Value.int IntKind.i64 (9 : Int)))
                                                      (w26.setCell ((a32.add (5 : Nat)).add (0 : Nat)) (Value.int IntKind.i64 i31))
                                             else
                                              Rets Try.prog (58 : Nat) #[Value.pointer q14, Value.int IntKind.i64 p2, Value.slice p3 n3 c3] w26
                                               fun (v34 : Value) (w35 : World) =>
                                               ∃ (i36 : Int), v34 = Value.int IntKind.i64 i36 ∧ Keeps w26 w35 [] ∧ R (Ending.returned (Value.int IntKind.i64 i36)) w35
                                   else
                                    Rets Try.prog (58 : Nat) #[Value.pointer q14, Value.int IntKind.i64 p2, Value.slice p3 n3 c3] w20.drew fun (v37 : Value) (w38 : World) =>
                                     ∃ (i39 : Int), v37 = Value.int IntKind.i64 i39 ∧ Keeps w20.drew w38 [] ∧ R (Ending.returned (Value.int IntKind.i64 i39)) w38
theorem vcTry69 (p0 : Option Addr) (p1 : Int) (p2 : Int) (p3 : Option Addr) (n3 c3 : Nat) (w : World) (R : Ending → World → Prop) : SX.vcFn Try.prog [] Try.f69 [.v (.pointer p0), .v (.int .i64 p1), .v (.int .i64 p2), .v (.slice p3 n3 c3)] [] w R = VCTry69 p0 p1 p2 p3 n3 c3 w R := by kernel_rfl
def VCTry70 (p0 : Option Addr) (p1 : Int) (w : World) (R : Ending → World → Prop) : Prop :=
Rets Try.prog (99 : Nat) #[Value.pointer p0] w fun (v0 : Value) (w1 : World) =>
 ∃ (t2 : Bool),
  v0 = Value.bool t2 ∧
   Keeps w w1 [] ∧
    bif !t2 then R (Ending.returned (Value.int IntKind.i64 (10 : Int))) w1
    else
     Rets Try.prog (100 : Nat) #[Value.pointer p0, Value.int IntKind.i64 p1] w1 fun (v3 : Value) (w4 : World) =>
      ∃ (t5 : Bool),
       v3 = Value.bool t5 ∧
        Keeps w1 w4 [] ∧
         bif !t5 then R (Ending.returned (Value.int IntKind.i64 (1 : Int))) w4
         else
          SX.Ptr p0 fun (a6 : Addr) =>
           ∃ (q7 : Option Addr),
            ∃ (n8 : Nat),
             ∃ (n9 : Nat),
              w4.cell? (a6.add (0 : Nat)) = some (Value.slice q7 n8 n9) ∧
               ((0 : Int) ≤ p1 ∧ p1 < (↑n8 : Int)) ∧
                SX.Ptr q7 fun (a10 : Addr) =>
                 ∃ (q11 : Option Addr),
                  w4.cell? (a10.add (p1.toNat * (1 : Nat))) = some (Value.pointer q11) ∧
                   Rets Try.prog (59 : Nat) #[Value.pointer q11] w4 fun (v12 : Value) (w13 : World) =>
                    v12 = Value.tuple #[] ∧ Keeps w4 w13 [] ∧ R (Ending.returned (Value.int IntKind.i64 (0 : Int))) w13
theorem vcTry70 (p0 : Option Addr) (p1 : Int) (w : World) (R : Ending → World → Prop) : SX.vcFn Try.prog [] Try.f70 [.v (.pointer p0), .v (.int .i64 p1)] [] w R = VCTry70 p0 p1 w R := by kernel_rfl
def VCTry71 (p0 : Option Addr) (w : World) (R : Ending → World → Prop) : Prop :=
Rets Try.prog (99 : Nat) #[Value.pointer p0] w fun (v0 : Value) (w1 : World) =>
 ∃ (t2 : Bool),
  v0 = Value.bool t2 ∧
   Keeps w w1 [] ∧
    bif !t2 then R (Ending.returned (Value.int IntKind.i64 (10 : Int))) w1
    else
     SX.Ptr p0 fun (a3 : Addr) =>
      (∃ (v4 : Value), w1.cell? (((a3.add (1 : Nat)).add (1 : Nat)).add (0 : Nat)) = some v4) ∧
       w1.frozen? (((a3.add (1 : Nat)).add (1 : Nat)).add (0 : Nat)) = false ∧
        R (Ending.returned (Value.int IntKind.i64 (0 : Int))) (w1.setCell (((a3.add (1 : Nat)).add (1 : Nat)).add (0 : Nat)) (Value.slice none (0 : Nat) (0 : Nat)))
theorem vcTry71 (p0 : Option Addr) (w : World) (R : Ending → World → Prop) : SX.vcFn Try.prog [] Try.f71 [.v (.pointer p0)] [] w R = VCTry71 p0 w R := by kernel_rfl
def VCTry72 (p0 : Option Addr) (p1 : ByteArray) (p2 : ByteArray) (w : World) (R : Ending → World → Prop) : Prop :=
Rets Try.prog (99 : Nat) #[Value.pointer p0] w fun (v0 : Value) (w1 : World) =>
 ∃ (t2 : Bool),
  v0 = Value.bool t2 ∧
   Keeps w w1 [] ∧
    bif !t2 then R (Ending.returned (Value.int IntKind.i64 (10 : Int))) w1
    else
     SX.Ptr p0 fun (a3 : Addr) =>
      Rets Try.prog (79 : Nat) #[Value.pointer (some (a3.add (1 : Nat))), Value.string p1, Value.string p2] w1 fun (v4 : Value) (w5 : World) =>
       ∃ (i6 : Int), v4 = Value.int IntKind.i64 i6 ∧ Keeps w1 w5 [] ∧ R (Ending.returned (Value.int IntKind.i64 i6)) w5
theorem vcTry72 (p0 : Option Addr) (p1 : ByteArray) (p2 : ByteArray) (w : World) (R : Ending → World → Prop) : SX.vcFn Try.prog [] Try.f72 [.v (.pointer p0), .v (.string p1), .v (.string p2)] [] w R = VCTry72 p0 p1 p2 w R := by kernel_rfl
def VCTry73 (p0 : Option Addr) (p1 : ByteArray) (w : World) (R : Ending → World → Prop) : Prop :=
Rets Try.prog (99 : Nat) #[Value.pointer p0] w fun (v0 : Value) (w1 : World) =>
 ∃ (t2 : Bool),
  v0 = Value.bool t2 ∧
   Keeps w w1 [] ∧
    bif !t2 then R (Ending.returned (Value.int IntKind.i64 (10 : Int))) w1
    else
     SX.Ptr p0 fun (a3 : Addr) =>
      Rets Try.prog (80 : Nat) #[Value.pointer (some (a3.add (1 : Nat))), Value.string p1] w1 fun (v4 : Value) (w5 : World) =>
       ∃ (i6 : Int), v4 = Value.int IntKind.i64 i6 ∧ Keeps w1 w5 [] ∧ R (Ending.returned (Value.int IntKind.i64 i6)) w5
theorem vcTry73 (p0 : Option Addr) (p1 : ByteArray) (w : World) (R : Ending → World → Prop) : SX.vcFn Try.prog [] Try.f73 [.v (.pointer p0), .v (.string p1)] [] w R = VCTry73 p0 p1 w R := by kernel_rfl
def VCTry99 (p0 : Option Addr) (w : World) (R : Ending → World → Prop) : Prop :=
SX.Ptr p0 fun (a0 : Addr) =>
 ∃ (i1 : Int),
  w.cell? (a0.add (4 : Nat)) = some (Value.int IntKind.i64 i1) ∧
   Wr IntKind.i64 (i1 + (1 : Int)) fun (i2 : Int) =>
    SX.Ptr p0 fun (a3 : Addr) =>
     (∃ (v4 : Value), w.cell? ((a3.add (4 : Nat)).add (0 : Nat)) = some v4) ∧
      w.frozen? ((a3.add (4 : Nat)).add (0 : Nat)) = false ∧
       ∃ (I5 : Int → World → Prop),
        ∃ (I6 : Int → World → Nat),
         I5 (0 : Int) (w.setCell ((a3.add (4 : Nat)).add (0 : Nat)) (Value.int IntKind.i64 i2)) ∧
          ∀ (i7 : Int) (w8 : World),
           I5 i7 w8 →
            SX.Ptr p0 fun (a9 : Addr) =>
             ∃ (q10 : Option Addr),
              ∃ (n11 : Nat),
               ∃ (n12 : Nat),
                w8.cell? (a9.add (6 : Nat)) = some (Value.slice q10 n11 n12) ∧
                 bif decide (i7 < (↑n11 : Int)) then
                  SX.Ptr p0 fun (a13 : Addr) =>
                   ∃ (q14 : Option Addr),
                    ∃ (n15 : Nat),
                     ∃ (n16 : Nat),
                      w8.drew.cell? (a13.add (6 : Nat)) = some (Value.slice q14 n15 n16) ∧
                       ((0 : Int) ≤ i7 ∧ i7 < (↑n15 : Int)) ∧
                        SX.Ptr q14 fun (a17 : Addr) =>
                         ∃ (i18 : Int),
                          w8.drew.cell? (a17.add (i7.toNat * (1 : Nat))) = some (Value.int IntKind.i64 i18) ∧
                           SX.Ptr p0 fun (a19 : Addr) =>
                            ∃ (i20 : Int),
                             w8.drew.cell? (a19.add (4 : Nat)) = some (Value.int IntKind.i64 i20) ∧
                              bif i18 == i20 then
                               SX.Ptr p0 fun (a21 : Addr) =>
                                ∃ (i22 : Int),
                                 w8.drew.cell? (a21.add (5 : Nat)) = some (Value.int IntKind.i64 i22) ∧
                                  Wr IntKind.i64 (i22 + (1 : Int)) fun (i23 : Int) =>
                                   SX.Ptr p0 fun (a24 : Addr) =>
                                    (∃ (v25 : Value), w8.drew.cell? ((a24.add (5 : Nat)).add (0 : Nat)) = some v25) ∧
                                     w8.drew.frozen? ((a24.add (5 : Nat)).add (0 : Nat)) = false ∧
                                      R (Ending.returned (Value.bool false)) (w8.drew.setCell ((a24.add (5 : Nat)).add (0 : Nat)) (Value.int IntKind.i64 i23))
                              else Wr IntKind.i64 (i7 + (1 : Int)) fun (i26 : Int) => I5 i26 w8.drew ∧ I6 i26 w8.drew < I6 i7 w8
                 else R (Ending.returned (Value.bool true)) w8
theorem vcTry99 (p0 : Option Addr) (w : World) (R : Ending → World → Prop) : SX.vcFn Try.prog [(3, ⟨[(3, .int .i64)], [0], []⟩)] Try.f99 [.v (.pointer p0)] [] w R = VCTry99 p0 w R := by kernel_rfl
def VCTry100 (p0 : Option Addr) (p1 : Int) (w : World) (R : Ending → World → Prop) : Prop :=
bif decide (p1 ≥ (0 : Int)) then
 SX.Ptr p0 fun (a0 : Addr) => ∃ (q1 : Option Addr), ∃ (n2 : Nat), ∃ (n3 : Nat), w.cell? (a0.add (0 : Nat)) = some (Value.slice q1 n2 n3) ∧ R (Ending.returned (Value.bool (decide (p1 < (↑n2 : Int))))) w
else R (Ending.returned (Value.bool false)) w
theorem vcTry100 (p0 : Option Addr) (p1 : Int) (w : World) (R : Ending → World → Prop) : SX.vcFn Try.prog [] Try.f100 [.v (.pointer p0), .v (.int .i64 p1)] [] w R = VCTry100 p0 p1 w R := by kernel_rfl
def VCTry101 (p0 : Option Addr) (w : World) (R : Ending → World → Prop) : Prop :=
∃ (I0 : Int → Int → World → Prop),
 ∃ (I1 : Int → Int → World → Nat),
  I0 (0 : Int) (0 : Int) w ∧
   ∀ (i2 i3 : Int) (w4 : World),
    I0 i2 i3 w4 →
     SX.Ptr p0 fun (a5 : Addr) =>
      ∃ (q6 : Option Addr),
       ∃ (n7 : Nat),
        ∃ (n8 : Nat),
         w4.cell? (a5.add (0 : Nat)) = some (Value.slice q6 n7 n8) ∧
          bif decide (i2 < (↑n7 : Int)) then
           SX.Ptr p0 fun (a9 : Addr) =>
            Rets Try.prog (50 : Nat) #[Value.pointer (some (a9.add (1 : Nat))), Value.int IntKind.i64 i2] w4 fun (v10 : Value) (w11 : World) =>
             ∃ (t12 : Bool),
              v10 = Value.bool t12 ∧
               Keeps w4 w11 [] ∧
                bif t12 then
                 SX.Ptr p0 fun (a13 : Addr) =>
                  ∃ (q14 : Option Addr),
                   ∃ (n15 : Nat),
                    ∃ (n16 : Nat),
                     w11.cell? (a13.add (0 : Nat)) = some (Value.slice q14 n15 n16) ∧
                      ((0 : Int) ≤ i2 ∧ i2 < (↑n15 : Int)) ∧
                       SX.Ptr q14 fun (a17 : Addr) =>
                        ∃ (q18 : Option Addr),
                         w11.cell? (a17.add (i2.toNat * (1 : Nat))) = some (Value.pointer q18) ∧
                          SX.Ptr q18 fun (a19 : Addr) =>
                           ∃ (q20 : Option Addr),
                            ∃ (n21 : Nat),
                             ∃ (n22 : Nat),
                              w11.cell? (a19.add (0 : Nat)) = some (Value.slice q20 n21 n22) ∧
                               Wr IntKind.i64 (i3 + (↑n21 : Int)) fun (i23 : Int) => Wr IntKind.i64 (i2 + (1 : Int)) fun (i24 : Int) => I0 i24 i23 w11 ∧ I1 i24 i23 w11 < I1 i2 i3 w4
                else Wr IntKind.i64 (i2 + (1 : Int)) fun (i25 : Int) => I0 i25 i3 w11 ∧ I1 i25 i3 w11 < I1 i2 i3 w4
          else R (Ending.returned (Value.int IntKind.i64 i3)) w4
theorem vcTry101 (p0 : Option Addr) (w : World) (R : Ending → World → Prop) : SX.vcFn Try.prog [(3, ⟨[(4, .int .i64), (3, .int .i64)], [0], []⟩)] Try.f101 [.v (.pointer p0)] [] w R = VCTry101 p0 w R := by kernel_rfl
def VCTry22 (p0 : Option Addr) (n0 c0 : Nat) (w : World) (R : Ending → World → Prop) : Prop :=
∃ (I0 : Int → World → Prop),
 ∃ (I1 : Int → World → Nat),
  I0 (0 : Int) w ∧
   ∀ (i2 : Int) (w3 : World),
    I0 i2 w3 →
     bif decide (i2 < (↑n0 : Int)) then
      bif decide (i2 < (100 : Int)) then
       ((0 : Int) ≤ i2 ∧ i2 < (↑n0 : Int)) ∧
        SX.Ptr p0 fun (a4 : Addr) =>
         ∃ (q5 : Option Addr),
          ∃ (n6 : Nat),
           ∃ (n7 : Nat),
            w3.cell? ((a4.add (i2.toNat * (10 : Nat))).add (5 : Nat)) = some (Value.slice q5 n6 n7) ∧
             bif decide ((↑n6 : Int) > (3000 : Int)) then R (Ending.returned (Value.bool true)) w3
             else
              ((0 : Int) ≤ i2 ∧ i2 < (↑n0 : Int)) ∧
               SX.Ptr p0 fun (a8 : Addr) =>
                ∃ (i9 : Int),
                 w3.cell? ((a8.add (i2.toNat * (10 : Nat))).add (2 : Nat)) = some (Value.int IntKind.i64 i9) ∧
                  bif decide (i9 > (20000 : Int)) then
                   ((0 : Int) ≤ i2 ∧ i2 < (↑n0 : Int)) ∧
                    SX.Ptr p0 fun (a10 : Addr) =>
                     ∃ (i11 : Int),
                      w3.cell? ((a10.add (i2.toNat * (10 : Nat))).add (2 : Nat)) = some (Value.int IntKind.i64 i11) ∧
                       bif decide (i11 ≤ (2097152 : Int)) then R (Ending.returned (Value.bool true)) w3
                       else
                        ((0 : Int) ≤ i2 ∧ i2 < (↑n0 : Int)) ∧
                         SX.Ptr p0 fun (a12 : Addr) =>
                          ∃ (s13 : ByteArray),
                           w3.cell? ((a12.add (i2.toNat * (10 : Nat))).add (3 : Nat)) = some (Value.string s13) ∧
                            bif decide ((↑s13.size : Int) > (300 : Int)) then R (Ending.returned (Value.bool true)) w3
                            else
                             ((0 : Int) ≤ i2 ∧ i2 < (↑n0 : Int)) ∧
                              SX.Ptr p0 fun (a14 : Addr) =>
                               ∃ (s15 : ByteArray),
                                w3.cell? ((a14.add (i2.toNat * (10 : Nat))).add (4 : Nat)) = some (Value.string s15) ∧
                                 bif decide ((↑s15.size : Int) > (300 : Int)) then R (Ending.returned (Value.bool true)) w3
                                 else
                                  ((0 : Int) ≤ i2 ∧ i2 < (↑n0 : Int)) ∧
                                   SX.Ptr p0 fun (a16 : Addr) =>
                                    ∃ (q17 : Option Addr),
                                     ∃ (n18 : Nat),
                                      ∃ (n19 : Nat),
                                       w3.cell? ((a16.add (i2.toNat * (10 : Nat))).add (9 : Nat)) = some (Value.slice q17 n18 n19) ∧
                                        bif decide ((↑n18 : Int) > (50 : Int)) then R (Ending.returned (Value.bool true)) w3
                                        else
                                         ((0 : Int) ≤ i2 ∧ i2 < (↑n0 : Int)) ∧
                                          SX.Ptr p0 fun (a20 : Addr) =>
                                           ∃ (q21 : Option Addr),
                                            ∃ (n22 : Nat),
                                             ∃ (n23 : Nat),
                                              w3.cell? (((a20.add (i2.toNat * (10 : Nat))).add (6 : Nat)).add (0 : Nat)) = some (Value.slice q21 n22 n23) ∧
                                               bif decide ((↑n22 : Int) > (500 : Int)) then R (Ending.returned (Value.bool true)) w3
                                               else Wr IntKind.i64 (i2 + (1 : Int)) fun (i24 : Int) => I0 i24 w3 ∧ I1 i24 w3 < I1 i2 w3
                  else
                   ((0 : Int) ≤ i2 ∧ i2 < (↑n0 : Int)) ∧
                    SX.Ptr p0 fun (a25 : Addr) =>
                     ∃ (s26 : ByteArray),
                      w3.cell? ((a25.add (i2.toNat * (10 : Nat))).add (3 : Nat)) = some (Value.string s26) ∧
                       bif decide ((↑s26.size : Int) > (300 : Int)) then R (Ending.returned (Value.bool true)) w3
                       else
                        ((0 : Int) ≤ i2 ∧ i2 < (↑n0 : Int)) ∧
                         SX.Ptr p0 fun (a27 : Addr) =>
                          ∃ (s28 : ByteArray),
                           w3.cell? ((a27.add (i2.toNat * (10 : Nat))).add (4 : Nat)) = some (Value.string s28) ∧
                            bif decide ((↑s28.size : Int) > (300 : Int)) then R (Ending.returned (Value.bool true)) w3
                            else
                             ((0 : Int) ≤ i2 ∧ i2 < (↑n0 : Int)) ∧
                              SX.Ptr p0 fun (a29 : Addr) =>
                               ∃ (q30 : Option Addr),
                                ∃ (n31 : Nat),
                                 ∃ (n32 : Nat),
                                  w3.cell? ((a29.add (i2.toNat * (10 : Nat))).add (9 : Nat)) = some (Value.slice q30 n31 n32) ∧
                                   bif decide ((↑n31 : Int) > (50 : Int)) then R (Ending.returned (Value.bool true)) w3
                                   else
                                    ((0 : Int) ≤ i2 ∧ i2 < (↑n0 : Int)) ∧
                                     SX.Ptr p0 fun (a33 : Addr) =>
                                      ∃ (q34 : Option Addr),
                                       ∃ (n35 : Nat),
                                        ∃ (n36 : Nat),
                                         w3.cell? (((a33.add (i2.toNat * (10 : Nat))).add (6 : Nat)).add (0 : Nat)) = some (Value.slice q34 n35 n36) ∧
                                          bif decide ((↑n35 : Int) > (500 : Int)) then R (Ending.returned (Value.bool true)) w3
                                          else Wr IntKind.i64 (i2 + (1 : Int)) fun (i37 : Int) => I0 i37 w3 ∧ I1 i37 w3 < I1 i2 w3
      else R (Ending.returned (Value.bool (decide ((↑n0 : Int) > (60 : Int))))) w3
     else R (Ending.returned (Value.bool (decide ((↑n0 : Int) > (60 : Int))))) w3
theorem vcTry22 (p0 : Option Addr) (n0 c0 : Nat) (w : World) (R : Ending → World → Prop) : SX.vcFn Try.prog [(2, ⟨[(3, .int .i64)], [0], []⟩)] Try.f22 [.v (.slice p0 n0 c0)] [] w R = VCTry22 p0 n0 c0 w R := by kernel_rfl
def VCTry74 (p : Option Addr) (qk : Option Addr) (nk ck : Nat) (nm : Int) (fill : Int) (w : World) (R : Ending → World → Prop) : Prop :=
∃ (I0 : Int → Int → World → Prop),
 ∃ (I1 : Int → Int → World → Nat),
  I0 (0 : Int) (0 : Int) (w.alloc (Obj.cells #[Value.slice qk nk ck, Value.int IntKind.i64 nm, Value.int IntKind.u8 fill] (53 : Nat))) ∧
   ∀ (i2 i3 : Int) (w4 : World),
    I0 i2 i3 w4 →
     Known w4 [(w.heap.size, [((0 : Nat), Value.slice qk nk ck), ((1 : Nat), Value.int IntKind.i64 nm), ((2 : Nat), Value.int IntKind.u8 fill)])] →
      SX.Ptr p fun (a5 : Addr) =>
       ∃ (q6 : Option Addr),
        ∃ (n7 : Nat),
         ∃ (n8 : Nat),
          w4.cell? (a5.add (0 : Nat)) = some (Value.slice q6 n7 n8) ∧
           bif decide (i2 < (↑n7 : Int)) then
            ∃ (I9 : Int → Int → Option Addr → Nat → Nat → World → Prop),
             ∃ (I10 : Int → Int → Option Addr → Nat → Nat → World → Nat),
              I9 (0 : Int) i3 none (0 : Nat) (0 : Nat) w4 ∧
               ∀ (i11 i12 : Int) (q13 : Option Addr) (n14 n15 : Nat) (w16 : World),
                I9 i11 i12 q13 n14 n15 w16 →
                 Known w16 [(w.heap.size, [((0 : Nat), Value.slice qk nk ck), ((1 : Nat), Value.int IntKind.i64 nm), ((2 : Nat), Value.int IntKind.u8 fill)])] →
                  SX.Ptr p fun (a17 : Addr) =>
                   ∃ (q18 : Option Addr),
                    ∃ (n19 : Nat),
                     ∃ (n20 : Nat),
                      w16.cell? (a17.add (0 : Nat)) = some (Value.slice q18 n19 n20) ∧
                       ((0 : Int) ≤ i2 ∧ i2 < (↑n19 : Int)) ∧
                        SX.Ptr q18 fun (a21 : Addr) =>
                         ∃ (q22 : Option Addr),
                          w16.cell? (a21.add (i2.toNat * (1 : Nat))) = some (Value.pointer q22) ∧
                           SX.Ptr q22 fun (a23 : Addr) =>
                            ∃ (q24 : Option Addr),
                             ∃ (n25 : Nat),
                              ∃ (n26 : Nat),
                               w16.cell? (a23.add (3 : Nat)) = some (Value.slice q24 n25 n26) ∧
                                bif decide (i11 < (↑n25 : Int)) then
                                 bif decide (i12 < (↑nk : Int)) then
                                  ((0 : Int) ≤ i12 ∧ i12 < (↑nk : Int)) ∧
                                   SX.Ptr qk fun (a27 : Addr) =>
                                    ∃ (t28 : Bool),
                                     w16.cell? (a27.add (i12.toNat * (1 : Nat))) = some (Value.bool t28) ∧
                                      Runs Try.prog
                                       (Builtin.append_ #[(31 : Nat), (31 : Nat)] (31 : Nat)
                                        #[Value.slice q13 n14 n15, Value.slice (some { block := w16.heap.size, off := (0 : Nat) }) (1 : Nat) (1 : Nat)])
                                       (w16.alloc (Obj.cells #[Value.bool t28] (4 : Nat))) fun (v29 : Value) (w30 : World) =>
                                       ∃ (q31 : Option Addr),
                                        ∃ (n32 : Nat),
                                         ∃ (n33 : Nat),
                                          v29 = Value.slice q31 n32 n33 ∧
                                           Keeps (w16.alloc (Obj.cells #[Value.bool t28] (4 : Nat))) w30 [w.heap.size] ∧
                                            Wr IntKind.i64 (i12 + (1 : Int)) fun (i34 : Int) =>
                                             Wr IntKind.i64 (i11 + (1 : Int)) fun (i35 : Int) =>
                                              SameVals [Value.slice qk nk ck, Value.int IntKind.i64 nm, Value.int IntKind.u8 fill]
                                                [Value.slice qk nk ck, Value.int IntKind.i64 nm, Value.int IntKind.u8 fill] ∧
                                               I9 i35 i34 q31 n32 n33 w30 ∧ I10 i35 i34 q31 n32 n33 w30 < I10 i11 i12 q13 n14 n15 w16
                                 else
                                  Runs Try.prog
                                   (Builtin.append_ #[(31 : Nat), (31 : Nat)] (31 : Nat)
                                    #[Value.slice q13 n14 n15, Value.slice (some { block := w16.heap.size, off := (0 : Nat) }) (1 : Nat) (1 : Nat)])
                                   (w16.alloc (Obj.cells #[Value.bool false] (4 : Nat))) fun (v36 : Value) (w37 : World) =>
                                   ∃ (q38 : Option Addr),
                                    ∃ (n39 : Nat),
                                     ∃ (n40 : Nat),
                                      v36 = Value.slice q38 n39 n40 ∧
                                       Keeps (w16.alloc (Obj.cells #[Value.bool false] (4 : Nat))) w37 [w.heap.size] ∧
                                        Wr IntKind.i64 (i12 + (1 : Int)) fun (i41 : Int) =>
                                         Wr IntKind.i64 (i11 + (1 : Int)) fun (i42 : Int) =>
                                          SameVals [Value.slice qk nk ck, Value.int IntKind.i64 nm, Value.int IntKind.u8 fill]
                                            [Value.slice qk nk ck, Value.int IntKind.i64 nm, Value.int IntKind.u8 fill] ∧
                                           I9 i42 i41 q38 n39 n40 w37 ∧ I10 i42 i41 q38 n39 n40 w37 < I10 i11 i12 q13 n14 n15 w16
                                else
                                 SX.Ptr p fun (a43 : Addr) =>
                                  ∃ (q44 : Option Addr),
                                   ∃ (n45 : Nat),
                                    ∃ (n46 : Nat),
                                     w16.drew.cell? (a43.add (0 : Nat)) = some (Value.slice q44 n45 n46) ∧
                                      ((0 : Int) ≤ i2 ∧ i2 < (↑n45 : Int)) ∧
                                       SX.Ptr q44 fun (a47 : Addr) =>
                                        ∃ (q48 : Option Addr),
                                         w16.drew.cell? (a47.add (i2.toNat * (1 : Nat))) = some (Value.pointer q48) ∧
                                          (Known w16.drew
                                            [(w.heap.size,
                                              [((0 : Nat), Value.slice qk nk ck), ((1 : Nat), Value.int IntKind.i64 nm), ((2 : Nat), Value.int IntKind.u8 fill)])] →
                                           Rets Try.prog (60 : Nat) #[Value.pointer q48, Value.slice q13 n14 n15, Value.int IntKind.u8 fill] w16.drew
                                            fun (v49 : Value) (w50 : World) =>
                                            v49 = Value.tuple #[] ∧
                                             Keeps w16.drew w50 [w.heap.size] ∧
                                              Wr IntKind.i64 (i2 + (1 : Int)) fun (i51 : Int) =>
                                               SameVals [Value.slice qk nk ck, Value.int IntKind.i64 nm, Value.int IntKind.u8 fill]
                                                 [Value.slice qk nk ck, Value.int IntKind.i64 nm, Value.int IntKind.u8 fill] ∧
                                                I0 i51 i12 w50 ∧ I1 i51 i12 w50 < I1 i2 i3 w4)
           else
            SX.Ptr p fun (a52 : Addr) =>
             Known w4.drew [(w.heap.size, [((0 : Nat), Value.slice qk nk ck), ((1 : Nat), Value.int IntKind.i64 nm), ((2 : Nat), Value.int IntKind.u8 fill)])] →
              Rets Try.prog (81 : Nat) #[Value.pointer (some (a52.add (1 : Nat))), Value.int IntKind.i64 nm] w4.drew fun (v53 : Value) (w54 : World) =>
               v53 = Value.tuple #[] ∧
                Keeps w4.drew w54 [w.heap.size] ∧
                 SX.Ptr p fun (a55 : Addr) =>
                  (∃ (v56 : Value), w54.cell? ((a55.add (6 : Nat)).add (0 : Nat)) = some v56) ∧
                   w54.frozen? ((a55.add (6 : Nat)).add (0 : Nat)) = false ∧
                    Apart ((a55.add (6 : Nat)).add (0 : Nat)) w.heap.size [(0 : Nat), (1 : Nat), (2 : Nat)] ∧
                     (Known (w54.setCell ((a55.add (6 : Nat)).add (0 : Nat)) (Value.slice none (0 : Nat) (0 : Nat)))
                       [(w.heap.size, [((0 : Nat), Value.slice qk nk ck), ((1 : Nat), Value.int IntKind.i64 nm), ((2 : Nat), Value.int IntKind.u8 fill)])] →
                      R (Ending.returned (Value.tuple #[])) (w54.setCell ((a55.add (6 : Nat)).add (0 : Nat)) (Value.slice none (0 : Nat) (0 : Nat))))
theorem vcTry74 (p : Option Addr) (qk : Option Addr) (nk ck : Nat) (nm : Int) (fill : Int) (w : World) (R : Ending → World → Prop) : SX.vcFn Try.prog [(7, ⟨[(7, .int .i64), (4, .int .i64), (6, .slice)], [3, 5, 0], []⟩), (3, ⟨[(5, .int .i64), (4, .int .i64)], [0, 3], []⟩)] Try.f74 [.v (.pointer p), .v (.agg #[.slice qk nk ck, .int .i64 nm, .int .u8 fill])] [] w R = VCTry74 p qk nk ck nm fill w R := by kernel_rfl
def VCTry26 (p m : Option Addr) (k id at_ : Int) (a t : ByteArray) (qb : Option Addr) (nb cb : Nat) (qk : Option Addr) (nk ck : Nat) (nm fill : Int) (qn : Option Addr) (nn cn : Nat) (w : World) (R : Ending → World → Prop) : Prop :=
bif k == (0 : Int) then
 Known
   (w.alloc
    (Obj.cells
     #[Value.int IntKind.i64 k, Value.int IntKind.i64 id, Value.int IntKind.i64 at_, Value.string a, Value.string t, Value.slice qb nb cb, Value.slice qk nk ck, Value.int IntKind.i64 nm, Value.int IntKind.u8 fill,
      Value.slice qn nn cn]
     (64 : Nat)))
   [(w.heap.size,
     [((0 : Nat), Value.int IntKind.i64 k), ((1 : Nat), Value.int IntKind.i64 id), ((2 : Nat), Value.int IntKind.i64 at_), ((3 : Nat), Value.string a), ((4 : Nat), Value.string t), ((5 : Nat), Value.slice qb nb cb),
      ((6 : Nat), Value.slice qk nk ck), ((7 : Nat), Value.int IntKind.i64 nm), ((8 : Nat), Value.int IntKind.u8 fill), ((9 : Nat), Value.slice qn nn cn)])] →
  Rets Try.prog (28 : Nat) #[Value.pointer p, Value.string a]
   (w.alloc
    (Obj.cells
     #[Value.int IntKind.i64 k, Value.int IntKind.i64 id, Value.int IntKind.i64 at_, Value.string a, Value.string t, Value.slice qb nb cb, Value.slice qk nk ck, Value.int IntKind.i64 nm, Value.int IntKind.u8 fill,
      Value.slice qn nn cn]
     (64 : Nat)))
   fun (v0 : Value) (w1 : World) =>
   ∃ (i2 : Int),
    ∃ (i3 : Int),
     v0 = Value.tuple #[Value.int IntKind.i64 i2, Value.int IntKind.i64 i3] ∧
      Keeps
        (w.alloc
         (Obj.cells
          #[Value.int IntKind.i64 k, Value.int IntKind.i64 id, Value.int IntKind.i64 at_, Value.string a, Value.string t, Value.slice qb nb cb, Value.slice qk nk ck, Value.int IntKind.i64 nm,
           Value.int IntKind.u8 fill, Value.slice qn nn cn]
          (64 : Nat)))
        w1 [w.heap.size] ∧
       (Known w1
         [(w.heap.size,
           [((0 : Nat), Value.int IntKind.i64 k), ((1 : Nat), Value.int IntKind.i64 id), ((2 : Nat), Value.int IntKind.i64 at_), ((3 : Nat), Value.string a), ((4 : Nat), Value.string t),
            ((5 : Nat), Value.slice qb nb cb), ((6 : Nat), Value.slice qk nk ck), ((7 : Nat), Value.int IntKind.i64 nm), ((8 : Nat), Value.int IntKind.u8 fill), ((9 : Nat), Value.slice qn nn cn)])] →
        Rets Try.prog (68 : Nat) #[Value.pointer m, Value.string a] w1 fun (v4 : Value) (w5 : World) =>
         ∃ (i6 : Int),
          ∃ (i7 : Int),
           v4 = Value.tuple #[Value.int IntKind.i64 i6, Value.int IntKind.i64 i7] ∧
            Keeps w1 w5 [w.heap.size] ∧
             bif i2 == i6 then
              Known w5
                [(w.heap.size,
                  [((0 : Nat), Value.int IntKind.i64 k), ((1 : Nat), Value.int IntKind.i64 id), ((2 : Nat), Value.int IntKind.i64 at_), ((3 : Nat), Value.string a), ((4 : Nat), Value.string t),
                   ((5 : Nat), Value.slice qb nb cb), ((6 : Nat), Value.slice qk nk ck), ((7 : Nat), Value.int IntKind.i64 nm), ((8 : Nat), Value.int IntKind.u8 fill),
                   ((9 : Nat), Value.slice qn nn cn)])] →
               R (Ending.returned (Value.bool (i3 == i7))) w5
             else
              Known w5
                [(w.heap.size,
                  [((0 : Nat), Value.int IntKind.i64 k), ((1 : Nat), Value.int IntKind.i64 id), ((2 : Nat), Value.int IntKind.i64 at_), ((3 : Nat), Value.string a), ((4 : Nat), Value.string t),
                   ((5 : Nat), Value.slice qb nb cb), ((6 : Nat), Value.slice qk nk ck), ((7 : Nat), Value.int IntKind.i64 nm), ((8 : Nat), Value.int IntKind.u8 fill),
                   ((9 : Nat), Value.slice qn nn cn)])] →
               R (Ending.returned (Value.bool false)) w5)
else
 bif k == (1 : Int) then
  Known
    (w.alloc
      (Obj.cells
       #[Value.int IntKind.i64 k, Value.int IntKind.i64 id, Value.int IntKind.i64 at_, Value.string a, Value.string t, Value.slice qb nb cb, Value.slice qk nk ck, Value.int IntKind.i64 nm,
        Value.int IntKind.u8 fill, Value.slice qn nn cn]
       (64 : Nat))).drew
    [(w.heap.size,
      [((0 : Nat), Value.int IntKind.i64 k), ((1 : Nat), Value.int IntKind.i64 id), ((2 : Nat), Value.int IntKind.i64 at_), ((3 : Nat), Value.string a), ((4 : Nat), Value.string t),
       ((5 : Nat), Value.slice qb nb cb), ((6 : Nat), Value.slice qk nk ck), ((7 : Nat), Value.int IntKind.i64 nm), ((8 : Nat), Value.int IntKind.u8 fill), ((9 : Nat), Value.slice qn nn cn)])] →
   Rets Try.prog (29 : Nat) #[Value.pointer p, Value.int IntKind.i64 id, Value.int IntKind.i64 at_, Value.slice qb nb cb]
    (w.alloc
      (Obj.cells
       #[Value.int IntKind.i64 k, Value.int IntKind.i64 id, Value.int IntKind.i64 at_, Value.string a, Value.string t, Value.slice qb nb cb, Value.slice qk nk ck, Value.int IntKind.i64 nm,
        Value.int IntKind.u8 fill, Value.slice qn nn cn]
       (64 : Nat))).drew
    fun (v8 : Value) (w9 : World) =>
    ∃ (i10 : Int),
     v8 = Value.int IntKind.i64 i10 ∧
      Keeps
        (w.alloc
          (Obj.cells
           #[Value.int IntKind.i64 k, Value.int IntKind.i64 id, Value.int IntKind.i64 at_, Value.string a, Value.string t, Value.slice qb nb cb, Value.slice qk nk ck, Value.int IntKind.i64 nm,
            Value.int IntKind.u8 fill, Value.slice qn nn cn]
           (64 : Nat))).drew
        w9 [w.heap.size] ∧
       w9.cell? { block := w.heap.size, off := (5 : Nat) } = some (Value.slice qb nb cb) ∧
        w9.cell? { block := w.heap.size, off := (2 : Nat) } = some (Value.int IntKind.i64 at_) ∧
         w9.cell? { block := w.heap.size, off := (1 : Nat) } = some (Value.int IntKind.i64 id) ∧
          (Known w9
            [(w.heap.size,
              [((0 : Nat), Value.int IntKind.i64 k), ((1 : Nat), Value.int IntKind.i64 id), ((2 : Nat), Value.int IntKind.i64 at_), ((3 : Nat), Value.string a), ((4 : Nat), Value.string t),
               ((5 : Nat), Value.slice qb nb cb), ((6 : Nat), Value.slice qk nk ck), ((7 : Nat), Value.int IntKind.i64 nm), ((8 : Nat), Value.int IntKind.u8 fill), ((9 : Nat), Value.slice qn nn cn)])] →
           Rets Try.prog (69 : Nat) #[Value.pointer m, Value.int IntKind.i64 id, Value.int IntKind.i64 at_, Value.slice qb nb cb] w9 fun (v11 : Value) (w12 : World) =>
            ∃ (i13 : Int),
             v11 = Value.int IntKind.i64 i13 ∧
              Keeps w9 w12 [w.heap.size] ∧
               (Known w12
                 [(w.heap.size,
                   [((0 : Nat), Value.int IntKind.i64 k), ((1 : Nat), Value.int IntKind.i64 id), ((2 : Nat), Value.int IntKind.i64 at_), ((3 : Nat), Value.string a), ((4 : Nat), Value.string t),
                    ((5 : Nat), Value.slice qb nb cb), ((6 : Nat), Value.slice qk nk ck), ((7 : Nat), Value.int IntKind.i64 nm), ((8 : Nat), Value.int IntKind.u8 fill),
                    ((9 : Nat), Value.slice qn nn cn)])] →
                R (Ending.returned (Value.bool (i10 == i13))) w12))
 else
  bif k == (2 : Int) then
   Known
     (w.alloc
       (Obj.cells
        #[Value.int IntKind.i64 k, Value.int IntKind.i64 id, Value.int IntKind.i64 at_, Value.string a, Value.string t, Value.slice qb nb cb, Value.slice qk nk ck, Value.int IntKind.i64 nm,
         Value.int IntKind.u8 fill, Value.slice qn nn cn]
        (64 : Nat))).drew
     [(w.heap.size,
       [((0 : Nat), Value.int IntKind.i64 k), ((1 : Nat), Value.int IntKind.i64 id), ((2 : Nat), Value.int IntKind.i64 at_), ((3 : Nat), Value.string a), ((4 : Nat), Value.string t),
        ((5 : Nat), Value.slice qb nb cb), ((6 : Nat), Value.slice qk nk ck), ((7 : Nat), Value.int IntKind.i64 nm), ((8 : Nat), Value.int IntKind.u8 fill), ((9 : Nat), Value.slice qn nn cn)])] →
    Rets Try.prog (30 : Nat) #[Value.pointer p, Value.int IntKind.i64 id]
     (w.alloc
       (Obj.cells
        #[Value.int IntKind.i64 k, Value.int IntKind.i64 id, Value.int IntKind.i64 at_, Value.string a, Value.string t, Value.slice qb nb cb, Value.slice qk nk ck, Value.int IntKind.i64 nm,
         Value.int IntKind.u8 fill, Value.slice qn nn cn]
        (64 : Nat))).drew
     fun (v14 : Value) (w15 : World) =>
     ∃ (i16 : Int),
      v14 = Value.int IntKind.i64 i16 ∧
       Keeps
         (w.alloc
           (Obj.cells
            #[Value.int IntKind.i64 k, Value.int IntKind.i64 id, Value.int IntKind.i64 at_, Value.string a, Value.string t, Value.slice qb nb cb, Value.slice qk nk ck, Value.int IntKind.i64 nm,
             Value.int IntKind.u8 fill, Value.slice qn nn cn]
            (64 : Nat))).drew
         w15 [w.heap.size] ∧
        w15.cell? { block := w.heap.size, off := (1 : Nat) } = some (Value.int IntKind.i64 id) ∧
         (Known w15
           [(w.heap.size,
             [((0 : Nat), Value.int IntKind.i64 k), ((1 : Nat), Value.int IntKind.i64 id), ((2 : Nat), Value.int IntKind.i64 at_), ((3 : Nat), Value.string a), ((4 : Nat), Value.string t),
              ((5 : Nat), Value.slice qb nb cb), ((6 : Nat), Value.slice qk nk ck), ((7 : Nat), Value.int IntKind.i64 nm), ((8 : Nat), Value.int IntKind.u8 fill), ((9 : Nat), Value.slice qn nn cn)])] →
          Rets Try.prog (70 : Nat) #[Value.pointer m, Value.int IntKind.i64 id] w15 fun (v17 : Value) (w18 : World) =>
           ∃ (i19 : Int),
            v17 = Value.int IntKind.i64 i19 ∧
             Keeps w15 w18 [w.heap.size] ∧
              (Known w18
                [(w.heap.size,
                  [((0 : Nat), Value.int IntKind.i64 k), ((1 : Nat), Value.int IntKind.i64 id), ((2 : Nat), Value.int IntKind.i64 at_), ((3 : Nat), Value.string a), ((4 : Nat), Value.string t),
                   ((5 : Nat), Value.slice qb nb cb), ((6 : Nat), Value.slice qk nk ck), ((7 : Nat), Value.int IntKind.i64 nm), ((8 : Nat), Value.int IntKind.u8 fill),
                   ((9 : Nat), Value.slice qn nn cn)])] →
               R (Ending.returned (Value.bool (i16 == i19))) w18))
  else
   bif k == (3 : Int) then
    Known
      (w.alloc
       (Obj.cells
        #[Value.int IntKind.i64 k, Value.int IntKind.i64 id, Value.int IntKind.i64 at_, Value.string a, Value.string t, Value.slice qb nb cb, Value.slice qk nk ck, Value.int IntKind.i64 nm,
         Value.int IntKind.u8 fill, Value.slice qn nn cn]
        (64 : Nat)))
      [(w.heap.size,
        [((0 : Nat), Value.int IntKind.i64 k), ((1 : Nat), Value.int IntKind.i64 id), ((2 : Nat), Value.int IntKind.i64 at_), ((3 : Nat), Value.string a), ((4 : Nat), Value.string t),
         ((5 : Nat), Value.slice qb nb cb), ((6 : Nat), Value.slice qk nk ck), ((7 : Nat), Value.int IntKind.i64 nm), ((8 : Nat), Value.int IntKind.u8 fill), ((9 : Nat), Value.slice qn nn cn)])] →
     Rets Try.prog (31 : Nat) #[Value.pointer p]
      (w.alloc
       (Obj.cells
        #[Value.int IntKind.i64 k, Value.int IntKind.i64 id, Value.int IntKind.i64 at_, Value.string a, Value.string t, Value.slice qb nb cb, Value.slice qk nk ck, Value.int IntKind.i64 nm,
         Value.int IntKind.u8 fill, Value.slice qn nn cn]
        (64 : Nat)))
      fun (v20 : Value) (w21 : World) =>
      ∃ (i22 : Int),
       v20 = Value.int IntKind.i64 i22 ∧
        Keeps
          (w.alloc
           (Obj.cells
            #[Value.int IntKind.i64 k, Value.int IntKind.i64 id, Value.int IntKind.i64 at_, Value.string a, Value.string t, Value.slice qb nb cb, Value.slice qk nk ck, Value.int IntKind.i64 nm,
             Value.int IntKind.u8 fill, Value.slice qn nn cn]
            (64 : Nat)))
          w21 [w.heap.size] ∧
         (Known w21
           [(w.heap.size,
             [((0 : Nat), Value.int IntKind.i64 k), ((1 : Nat), Value.int IntKind.i64 id), ((2 : Nat), Value.int IntKind.i64 at_), ((3 : Nat), Value.string a), ((4 : Nat), Value.string t),
              ((5 : Nat), Value.slice qb nb cb), ((6 : Nat), Value.slice qk nk ck), ((7 : Nat), Value.int IntKind.i64 nm), ((8 : Nat), Value.int IntKind.u8 fill), ((9 : Nat), Value.slice qn nn cn)])] →
          Rets Try.prog (71 : Nat) #[Value.pointer m] w21 fun (v23 : Value) (w24 : World) =>
           ∃ (i25 : Int),
            v23 = Value.int IntKind.i64 i25 ∧
             Keeps w21 w24 [w.heap.size] ∧
              (Known w24
                [(w.heap.size,
                  [((0 : Nat), Value.int IntKind.i64 k), ((1 : Nat), Value.int IntKind.i64 id), ((2 : Nat), Value.int IntKind.i64 at_), ((3 : Nat), Value.string a), ((4 : Nat), Value.string t),
                   ((5 : Nat), Value.slice qb nb cb), ((6 : Nat), Value.slice qk nk ck), ((7 : Nat), Value.int IntKind.i64 nm), ((8 : Nat), Value.int IntKind.u8 fill),
                   ((9 : Nat), Value.slice qn nn cn)])] →
               R (Ending.returned (Value.bool (i22 == i25))) w24))
   else
    bif k == (4 : Int) then
     Known
       (w.alloc
         (Obj.cells
          #[Value.int IntKind.i64 k, Value.int IntKind.i64 id, Value.int IntKind.i64 at_, Value.string a, Value.string t, Value.slice qb nb cb, Value.slice qk nk ck, Value.int IntKind.i64 nm,
           Value.int IntKind.u8 fill, Value.slice qn nn cn]
          (64 : Nat))).drew
       [(w.heap.size,
         [((0 : Nat), Value.int IntKind.i64 k), ((1 : Nat), Value.int IntKind.i64 id), ((2 : Nat), Value.int IntKind.i64 at_), ((3 : Nat), Value.string a), ((4 : Nat), Value.string t),
          ((5 : Nat), Value.slice qb nb cb), ((6 : Nat), Value.slice qk nk ck), ((7 : Nat), Value.int IntKind.i64 nm), ((8 : Nat), Value.int IntKind.u8 fill), ((9 : Nat), Value.slice qn nn cn)])] →
      Rets Try.prog (52 : Nat) #[Value.pointer p, Value.string a, Value.string t]
       (w.alloc
         (Obj.cells
          #[Value.int IntKind.i64 k, Value.int IntKind.i64 id, Value.int IntKind.i64 at_, Value.string a, Value.string t, Value.slice qb nb cb, Value.slice qk nk ck, Value.int IntKind.i64 nm,
           Value.int IntKind.u8 fill, Value.slice qn nn cn]
          (64 : Nat))).drew
       fun (v26 : Value) (w27 : World) =>
       ∃ (i28 : Int),
        v26 = Value.int IntKind.i64 i28 ∧
         Keeps
           (w.alloc
             (Obj.cells
              #[Value.int IntKind.i64 k, Value.int IntKind.i64 id, Value.int IntKind.i64 at_, Value.string a, Value.string t, Value.slice qb nb cb, Value.slice qk nk ck, Value.int IntKind.i64 nm,
               Value.int IntKind.u8 fill, Value.slice qn nn cn]
              (64 : Nat))).drew
           w27 [w.heap.size] ∧
          w27.cell? { block := w.heap.size, off := (4 : Nat) } = some (Value.string t) ∧
           w27.cell? { block := w.heap.size, off := (3 : Nat) } = some (Value.string a) ∧
            (Known w27
              [(w.heap.size,
                [((0 : Nat), Value.int IntKind.i64 k), ((1 : Nat), Value.int IntKind.i64 id), ((2 : Nat), Value.int IntKind.i64 at_), ((3 : Nat), Value.string a), ((4 : Nat), Value.string t),
                 ((5 : Nat), Value.slice qb nb cb), ((6 : Nat), Value.slice qk nk ck), ((7 : Nat), Value.int IntKind.i64 nm), ((8 : Nat), Value.int IntKind.u8 fill),
                 ((9 : Nat), Value.slice qn nn cn)])] →
             Rets Try.prog (72 : Nat) #[Value.pointer m, Value.string a, Value.string t] w27 fun (v29 : Value) (w30 : World) =>
              ∃ (i31 : Int),
               v29 = Value.int IntKind.i64 i31 ∧
                Keeps w27 w30 [w.heap.size] ∧
                 (Known w30
                   [(w.heap.size,
                     [((0 : Nat), Value.int IntKind.i64 k), ((1 : Nat), Value.int IntKind.i64 id), ((2 : Nat), Value.int IntKind.i64 at_), ((3 : Nat), Value.string a), ((4 : Nat), Value.string t),
                      ((5 : Nat), Value.slice qb nb cb), ((6 : Nat), Value.slice qk nk ck), ((7 : Nat), Value.int IntKind.i64 nm), ((8 : Nat), Value.int IntKind.u8 fill),
                      ((9 : Nat), Value.slice qn nn cn)])] →
                  R (Ending.returned (Value.bool (i28 == i31))) w30))
    else
     bif k == (5 : Int) then
      Known
        (w.alloc
          (Obj.cells
           #[Value.int IntKind.i64 k, Value.int IntKind.i64 id, Value.int IntKind.i64 at_, Value.string a, Value.string t, Value.slice qb nb cb, Value.slice qk nk ck, Value.int IntKind.i64 nm,
            Value.int IntKind.u8 fill, Value.slice qn nn cn]
           (64 : Nat))).drew
        [(w.heap.size,
          [((0 : Nat), Value.int IntKind.i64 k), ((1 : Nat), Value.int IntKind.i64 id), ((2 : Nat), Value.int IntKind.i64 at_), ((3 : Nat), Value.string a), ((4 : Nat), Value.string t),
           ((5 : Nat), Value.slice qb nb cb), ((6 : Nat), Value.slice qk nk ck), ((7 : Nat), Value.int IntKind.i64 nm), ((8 : Nat), Value.int IntKind.u8 fill), ((9 : Nat), Value.slice qn nn cn)])] →
       Rets Try.prog (53 : Nat) #[Value.pointer p, Value.string a]
        (w.alloc
          (Obj.cells
           #[Value.int IntKind.i64 k, Value.int IntKind.i64 id, Value.int IntKind.i64 at_, Value.string a, Value.string t, Value.slice qb nb cb, Value.slice qk nk ck, Value.int IntKind.i64 nm,
            Value.int IntKind.u8 fill, Value.slice qn nn cn]
           (64 : Nat))).drew
        fun (v32 : Value) (w33 : World) =>
        ∃ (i34 : Int),
         v32 = Value.int IntKind.i64 i34 ∧
          Keeps
            (w.alloc
              (Obj.cells
               #[Value.int IntKind.i64 k, Value.int IntKind.i64 id, Value.int IntKind.i64 at_, Value.string a, Value.string t, Value.slice qb nb cb, Value.slice qk nk ck, Value.int IntKind.i64 nm,
                Value.int IntKind.u8 fill, Value.slice qn nn cn]
               (64 : Nat))).drew
            w33 [w.heap.size] ∧
           w33.cell? { block := w.heap.size, off := (3 : Nat) } = some (Value.string a) ∧
            (Known w33
              [(w.heap.size,
                [((0 : Nat), Value.int IntKind.i64 k), ((1 : Nat), Value.int IntKind.i64 id), ((2 : Nat), Value.int IntKind.i64 at_), ((3 : Nat), Value.string a), ((4 : Nat), Value.string t),
                 ((5 : Nat), Value.slice qb nb cb), ((6 : Nat), Value.slice qk nk ck), ((7 : Nat), Value.int IntKind.i64 nm), ((8 : Nat), Value.int IntKind.u8 fill),
                 ((9 : Nat), Value.slice qn nn cn)])] →
             Rets Try.prog (73 : Nat) #[Value.pointer m, Value.string a] w33 fun (v35 : Value) (w36 : World) =>
              ∃ (i37 : Int),
               v35 = Value.int IntKind.i64 i37 ∧
                Keeps w33 w36 [w.heap.size] ∧
                 (Known w36
                   [(w.heap.size,
                     [((0 : Nat), Value.int IntKind.i64 k), ((1 : Nat), Value.int IntKind.i64 id), ((2 : Nat), Value.int IntKind.i64 at_), ((3 : Nat), Value.string a), ((4 : Nat), Value.string t),
                      ((5 : Nat), Value.slice qb nb cb), ((6 : Nat), Value.slice qk nk ck), ((7 : Nat), Value.int IntKind.i64 nm), ((8 : Nat), Value.int IntKind.u8 fill),
                      ((9 : Nat), Value.slice qn nn cn)])] →
                  R (Ending.returned (Value.bool (i34 == i37))) w36))
     else
      bif k == (6 : Int) then
       Known
         (w.alloc
          (Obj.cells
           #[Value.int IntKind.i64 k, Value.int IntKind.i64 id, Value.int IntKind.i64 at_, Value.string a, Value.string t, Value.slice qb nb cb, Value.slice qk nk ck, Value.int IntKind.i64 nm,
            Value.int IntKind.u8 fill, Value.slice qn nn cn]
           (64 : Nat)))
         [(w.heap.size,
           [((0 : Nat), Value.int IntKind.i64 k), ((1 : Nat), Value.int IntKind.i64 id), ((2 : Nat), Value.int IntKind.i64 at_), ((3 : Nat), Value.string a), ((4 : Nat), Value.string t),
            ((5 : Nat), Value.slice qb nb cb), ((6 : Nat), Value.slice qk nk ck), ((7 : Nat), Value.int IntKind.i64 nm), ((8 : Nat), Value.int IntKind.u8 fill), ((9 : Nat), Value.slice qn nn cn)])] →
        Rets Try.prog (32 : Nat) #[Value.pointer p, Value.agg #[Value.slice qk nk ck, Value.int IntKind.i64 nm, Value.int IntKind.u8 fill]]
         (w.alloc
          (Obj.cells
           #[Value.int IntKind.i64 k, Value.int IntKind.i64 id, Value.int IntKind.i64 at_, Value.string a, Value.string t, Value.slice qb nb cb, Value.slice qk nk ck, Value.int IntKind.i64 nm,
            Value.int IntKind.u8 fill, Value.slice qn nn cn]
           (64 : Nat)))
         fun (v38 : Value) (w39 : World) =>
         v38 = Value.tuple #[] ∧
          Keeps
            (w.alloc
             (Obj.cells
              #[Value.int IntKind.i64 k, Value.int IntKind.i64 id, Value.int IntKind.i64 at_, Value.string a, Value.string t, Value.slice qb nb cb, Value.slice qk nk ck, Value.int IntKind.i64 nm,
               Value.int IntKind.u8 fill, Value.slice qn nn cn]
              (64 : Nat)))
            w39 [w.heap.size] ∧
           (Known w39
             [(w.heap.size,
               [((0 : Nat), Value.int IntKind.i64 k), ((1 : Nat), Value.int IntKind.i64 id), ((2 : Nat), Value.int IntKind.i64 at_), ((3 : Nat), Value.string a), ((4 : Nat), Value.string t),
                ((5 : Nat), Value.slice qb nb cb), ((6 : Nat), Value.slice qk nk ck), ((7 : Nat), Value.int IntKind.i64 nm), ((8 : Nat), Value.int IntKind.u8 fill), ((9 : Nat), Value.slice qn nn cn)])] →
            Rets Try.prog (74 : Nat) #[Value.pointer m, Value.agg #[Value.slice qk nk ck, Value.int IntKind.i64 nm, Value.int IntKind.u8 fill]] w39 fun (v40 : Value) (w41 : World) =>
             v40 = Value.tuple #[] ∧
              Keeps w39 w41 [w.heap.size] ∧
               (Known w41
                 [(w.heap.size,
                   [((0 : Nat), Value.int IntKind.i64 k), ((1 : Nat), Value.int IntKind.i64 id), ((2 : Nat), Value.int IntKind.i64 at_), ((3 : Nat), Value.string a), ((4 : Nat), Value.string t),
                    ((5 : Nat), Value.slice qb nb cb), ((6 : Nat), Value.slice qk nk ck), ((7 : Nat), Value.int IntKind.i64 nm), ((8 : Nat), Value.int IntKind.u8 fill),
                    ((9 : Nat), Value.slice qn nn cn)])] →
                R (Ending.returned (Value.bool true)) w41))
      else
       Known
         (w.alloc
          (Obj.cells
           #[Value.int IntKind.i64 k, Value.int IntKind.i64 id, Value.int IntKind.i64 at_, Value.string a, Value.string t, Value.slice qb nb cb, Value.slice qk nk ck, Value.int IntKind.i64 nm,
            Value.int IntKind.u8 fill, Value.slice qn nn cn]
           (64 : Nat)))
         [(w.heap.size,
           [((0 : Nat), Value.int IntKind.i64 k), ((1 : Nat), Value.int IntKind.i64 id), ((2 : Nat), Value.int IntKind.i64 at_), ((3 : Nat), Value.string a), ((4 : Nat), Value.string t),
            ((5 : Nat), Value.slice qb nb cb), ((6 : Nat), Value.slice qk nk ck), ((7 : Nat), Value.int IntKind.i64 nm), ((8 : Nat), Value.int IntKind.u8 fill), ((9 : Nat), Value.slice qn nn cn)])] →
        Rets Try.prog (27 : Nat) #[Value.pointer p, Value.slice qn nn cn]
         (w.alloc
          (Obj.cells
           #[Value.int IntKind.i64 k, Value.int IntKind.i64 id, Value.int IntKind.i64 at_, Value.string a, Value.string t, Value.slice qb nb cb, Value.slice qk nk ck, Value.int IntKind.i64 nm,
            Value.int IntKind.u8 fill, Value.slice qn nn cn]
           (64 : Nat)))
         fun (v42 : Value) (w43 : World) =>
         v42 = Value.tuple #[] ∧
          Keeps
            (w.alloc
             (Obj.cells
              #[Value.int IntKind.i64 k, Value.int IntKind.i64 id, Value.int IntKind.i64 at_, Value.string a, Value.string t, Value.slice qb nb cb, Value.slice qk nk ck, Value.int IntKind.i64 nm,
               Value.int IntKind.u8 fill, Value.slice qn nn cn]
              (64 : Nat)))
            w43 [w.heap.size] ∧
           SX.Ptr m fun (a44 : Addr) =>
            (∃ (v45 : Value), w43.cell? ((a44.add (6 : Nat)).add (0 : Nat)) = some v45) ∧
             w43.frozen? ((a44.add (6 : Nat)).add (0 : Nat)) = false ∧
              Apart ((a44.add (6 : Nat)).add (0 : Nat)) w.heap.size [(0 : Nat), (1 : Nat), (2 : Nat), (3 : Nat), (4 : Nat), (5 : Nat), (6 : Nat), (7 : Nat), (8 : Nat), (9 : Nat)] ∧
               (Known (w43.setCell ((a44.add (6 : Nat)).add (0 : Nat)) (Value.slice qn nn cn))
                 [(w.heap.size,
                   [((0 : Nat), Value.int IntKind.i64 k), ((1 : Nat), Value.int IntKind.i64 id), ((2 : Nat), Value.int IntKind.i64 at_), ((3 : Nat), Value.string a), ((4 : Nat), Value.string t),
                    ((5 : Nat), Value.slice qb nb cb), ((6 : Nat), Value.slice qk nk ck), ((7 : Nat), Value.int IntKind.i64 nm), ((8 : Nat), Value.int IntKind.u8 fill),
                    ((9 : Nat), Value.slice qn nn cn)])] →
                R (Ending.returned (Value.bool true)) (w43.setCell ((a44.add (6 : Nat)).add (0 : Nat)) (Value.slice qn nn cn)))
theorem vcTry26 (p m : Option Addr) (k id at_ : Int) (a t : ByteArray) (qb : Option Addr) (nb cb : Nat) (qk : Option Addr) (nk ck : Nat) (nm fill : Int) (qn : Option Addr) (nn cn : Nat) (w : World) (R : Ending → World → Prop) : SX.vcFn Try.prog [] Try.f26 [.v (.pointer p), .v (.pointer m), .v (.agg #[.int .i64 k, .int .i64 id, .int .i64 at_, .string a, .string t, .slice qb nb cb, .slice qk nk ck, .int .i64 nm, .int .u8 fill, .slice qn nn cn])] [] w R = VCTry26 p m k id at_ a t qb nb cb qk nk ck nm fill qn nn cn w R := by kernel_rfl
end Go.Proofs.Ytlgkcbdpaffigaa

namespace Go.Proofs.Ytlgkcbdpaffigaa
open Go Go.SX Go.Proofs
set_option maxRecDepth 100000
set_option linter.unusedVariables false
set_option linter.unusedSimpArgs false
/-- Neighbours have changed; a directory has not. -/
theorem RD.nb {O : Nat → Prop} {w w' : World} {b o p n : Nat} {H : List (List Ent)} {N : List Ent} (h : RD w O b o H N) (k : Kp (one_ b) w w') (nb : Nb b p n w w') (hd : o + 2 ≤ p ∨ p + n ≤ o) : RD w' O b o H N := by
  obtain ⟨qn, cn, vp, own, ps, h1, h2, h3, h4, h5, h6, h7⟩ := h
  refine ⟨qn, cn, vp, fun i => own i ∧ i < w.heap.size, ps, h1.nb k nb (by simpa using hd), h2, fun i hi => h3 i hi.1, h4.kp entC_len (by omega) k fun i hl hi => ⟨hi.2.1, hi.1, hi.2.1, fun hh => hi.2.2 hh.1⟩, h5, ?_, fun p hp => (h7 p hp).kp entC_len (by omega) k fun i hl hi => ⟨hi.2.1, hi.1, hi.2.1, fun hh => hi.2.2 hh.1⟩⟩
  exact (h6.mono (own' := fun i => own i ∧ i < w.heap.size) fun i hi hl => ⟨hi, hl⟩).kp k fun g n cap _ hg e => (h3 g hg.1).2 e
/-- The document's files by names; what is refused lies below E. -/
def FRM (E : Nat) (w : World) (O : Nat → Prop) (b : Nat) (Ds : List Nat) (H : List (List Ent)) (N : List Ent) (cap k r : Int) (rl : List Int) : Prop :=
  ∃ (dv : Value) (own Od : Nat → Prop) (rq : Option Addr) (rc : Nat), Cs w b 0 [dv] ∧ RD w Od b 1 H N ∧ Cs w b 3 [.int .i64 cap, .int .i64 k, .int .i64 r, .slice rq rl.length rc] ∧ OwnRow w own 37 1 dv Ds.length (flatC ptC Ds) ∧ RowsAt w 1 intC rq rl ∧ (0 < rl.length → ∀ a, rq = some a → a.block < E) ∧ (∀ i, own i → O i ∧ ¬ Od i) ∧ (∀ i, Od i → O i) ∧ ∀ i, O i → E ≤ i
variable {E : Nat} {w w' : World} {O O' : Nat → Prop} {b : Nat} {Ds : List Nat} {H : List (List Ent)} {N : List Ent} {cap k r : Int} {rl : List Int}
theorem FRM.lt (h : FRM E w O b Ds H N cap k r rl) : b < w.heap.size ∧ O b ∧ E ≤ b := by
  obtain ⟨dv, own, Od, rq, rc, h1, h2, h3, h4, h5, h6, h7, h8, h9⟩ := h
  exact ⟨h2.lt.1, h8 _ h2.lt.2, h9 _ (h8 _ h2.lt.2)⟩
theorem FRM.kp {S' : Nat → Prop} (h : FRM E w O b Ds H N cap k r rl) (kk : Kp S' w w') (hE : ∀ i, S' i → E ≤ i) (hs : ∀ i, i < w.heap.size → O i → ¬ S' i ∧ O' i) (hO' : ∀ i, O' i → E ≤ i) : FRM E w' O' b Ds H N cap k r rl := by
  obtain ⟨dv, own, Od, rq, rc, h1, h2, h3, h4, h5, h6, h7, h8, h9⟩ := h
  have hb := h2.lt
  have sb := (hs b hb.1 (h8 _ hb.2)).1
  refine ⟨dv, fun i => own i ∧ i < w.heap.size, fun i => Od i ∧ i < w.heap.size, rq, rc, h1.kp kk sb, h2.kp kk fun i hl hi => ⟨(hs i hl (h8 i hi)).1, hi, hl⟩, h3.kp kk sb, ?_, h5.kp kk fun h0 a e hh => by have := h6 h0 a e; have := hE _ hh; omega, h6, fun i hi => ⟨(hs i hi.2 (h7 i hi.1).1).2, fun hh => (h7 i hi.1).2 hh.1⟩, fun i hi => (hs i hi.2 (h8 i hi.1)).2, hO'⟩
  exact (h4.mono (own' := fun i => own i ∧ i < w.heap.size) fun i hi hl => ⟨hi, hl⟩).kp kk fun g n cap _ hg => (hs g hg.2 (h7 g hg.1).1).1
theorem FRM.disks (h : FRM E w O b Ds H N cap k r rl) : ∃ q c, w.cell? ⟨b, 0, none⟩ = some (.slice q Ds.length c) ∧ RowsAt w 1 ptC q Ds ∧ (0 < Ds.length → ∀ a, q = some a → O a.block) := by
  obtain ⟨dv, own, Od, rq, rc, h1, h2, h3, h4, h5, h6, h7, h8, h9⟩ := h
  obtain ⟨q, c, rfl⟩ := h4.slice
  have := rwIn_of (Q := O) ptC_len (by omega) h4 fun i hi => (h7 i hi).1
  exact ⟨q, c, h1.get 0 rfl, this.1, this.2⟩
theorem FRM.set {j : Nat} (hj : j < 3) (h : FRM E w O b Ds H N cap k r rl) {cap' k' r' u : Int} (hv : ([.int .i64 cap', .int .i64 k', .int .i64 r'] : List Value) = ([.int .i64 cap, .int .i64 k, .int .i64 r] : List Value).set j (.int .i64 u)) : FRM E (w.setCell ⟨b, 3 + j, none⟩ (.int .i64 u)) O b Ds H N cap' k' r' rl ∧ Kp (one_ b) w (w.setCell ⟨b, 3 + j, none⟩ (.int .i64 u)) ∧ (∃ v, w.cell? ⟨b, 3 + j, none⟩ = some v) ∧ w.frozen? ⟨b, 3 + j, none⟩ = false := by
  have hlt := h.lt
  obtain ⟨dv, own, Od, rq, rc, h1, h2, h3, h4, h5, h6, h7, h8, h9⟩ := h
  have kk : Kp (one_ b) w (w.setCell ⟨b, 3 + j, none⟩ (.int .i64 u)) := kp_set _ _ _ _
  have nb : Nb b 3 4 w (w.setCell ⟨b, 3 + j, none⟩ (.int .i64 u)) := Nb.set w (b := b) (o := 3) (i := j) (by omega) _
  have cc := h3.set j (.int .i64 u)
  have e : ([.int .i64 cap, .int .i64 k, .int .i64 r, .slice rq rl.length rc] : List Value).set j (.int .i64 u) = [.int .i64 cap', .int .i64 k', .int .i64 r', .slice rq rl.length rc] := by
    have : ([.int .i64 cap, .int .i64 k, .int .i64 r, .slice rq rl.length rc] : List Value) = [.int .i64 cap, .int .i64 k, .int .i64 r] ++ [.slice rq rl.length rc] := rfl
    rw [this, List.set_append_left _ _ (by simpa using hj), ← hv]
    rfl
  rw [e] at cc
  exact ⟨⟨dv, own, Od, rq, rc, h1.nb kk nb (.inl (by simp)), h2.nb kk nb (.inl (by omega)), cc, h4.kp kk (fun g n cap _ hg e => by have e : g = b := e; rw [e] at hg; exact (h7 b hg).2 h2.lt.2), h5.kp kk (fun h0 a e hh => by have := h6 h0 a e; have hh : a.block = b := hh; omega), h6, h7, h8, h9⟩, kk, h3.slot j (by simp; omega)⟩
/-- A call is counted. -/
theorem c99 (h : FRM E w O b Ds H N cap k r rl) (hk : 0 ≤ k ∧ k ≤ 1000000) (hr : 0 ≤ r ∧ r ≤ 1000000) (hl : rl.length ≤ 1000000) : Rets Try.prog 99 #[ptA b 0] w fun v w' => v = .bool (decide (refE rl k = 0)) ∧ FRM E w' O b Ds H N cap (k + 1) (refN rl k r) rl ∧ Kp (one_ b) w w' := by
  refine ent [_] Try.func99 ((vcTry99 _ w _).mpr ?_)
  unfold VCTry99
  obtain ⟨h1, k1, s1, s2⟩ := h.set (j := 1) (by omega) (cap' := cap) (k' := k + 1) (r' := r) (u := k + 1) rfl
  obtain ⟨dv, own, Od, rq, rc, g1, g2, g3, g4, g5, g6, g7, g8, g9⟩ := h
  simp only [ptr_some, ad3, Nat.zero_add, Nat.add_zero]
  refine ⟨_, g3.get 1 rfl, wr64 (by omega) ⟨s1, s2, ?_⟩⟩
  have r1 : RowsAt (w.setCell ⟨b, 4, none⟩ (.int .i64 (k + 1))) 1 intC rq rl := g5.kp k1 fun h0 a e hh => by have := g6 h0 a e; have := g9 _ (g8 _ g2.lt.2); have hh : a.block = b := hh; omega
  have c1 : Cs (w.setCell ⟨b, 4, none⟩ (.int .i64 (k + 1))) b 3 [.int .i64 cap, .int .i64 (k + 1), .int .i64 r, .slice rq rl.length rc] := g3.set 1 _
  have h1 : FRM E (w.setCell ⟨b, 4, none⟩ (.int .i64 (k + 1))) O b Ds H N cap (k + 1) r rl := h1
  have k1 : Kp (one_ b) w (w.setCell ⟨b, 4, none⟩ (.int .i64 (k + 1))) := k1
  generalize w.setCell ⟨b, 4, none⟩ (.int .i64 (k + 1)) = w1 at *
  have h1d : ∀ {W : World}, Kp none_ w1 W → FRM E W O b Ds H N cap (k + 1) r rl := fun kW => h1.kp kW (fun i hi => hi.elim) (fun i _ hi => ⟨id, hi⟩) g9
  refine ⟨fun i w' => ∃ j : Nat, i = j ∧ j ≤ rl.length ∧ Kp none_ w1 w' ∧ ∀ x (hx : x < rl.length), x < j → rl[x] ≠ k + 1, fun i _ => (rl.length - i).toNat, ⟨0, rfl, by omega, Kp.refl _ _, fun x hx h => by omega⟩, ?_⟩
  rintro i w2 ⟨j, rfl, hj, k2, hn⟩
  have cc := c1.kp0 k2
  refine ⟨_, _, _, cc.get 3 rfl, bif_dec (fun hi => ?_) (fun hi => ?_)⟩
  · have hjl : j < rl.length := by omega
    have k3 := k2.drew
    have cd := c1.kp0 k3
    refine ⟨_, _, _, cd.get 3 rfl, ⟨by omega, hi⟩, (r1.kp0 k3).get hjl fun a ea hc => ⟨_, (cell_add0 _ _).symm.trans (hc 0 _ rfl), _, cd.get 1 rfl, bif_eq (fun he => ?_) (fun he => ?_)⟩⟩
    · have hm : k + 1 ∈ rl := by rw [← he]; exact List.getElem_mem hjl
      obtain ⟨x1, x2, x3, x4⟩ := (h1d k3).set (j := 2) (by omega) (cap' := cap) (k' := k + 1) (r' := r + 1) (u := r + 1) rfl
      refine ⟨_, cd.get 2 rfl, wr64 (by omega) ⟨x3, x4, _, rfl, ?_, ?_, k1.trans (k3.wide.trans x2)⟩⟩
      · unfold refE; rw [if_pos hm]; rfl
      · unfold refN; rw [if_pos hm]; exact x1
    · refine wr64 (by omega) ⟨⟨j + 1, by omega, by omega, k3, fun x hx hxj => ?_⟩, by first | omega | (dsimp only; omega)⟩
      by_cases ee : x = j
      · subst ee; exact he
      · exact hn x hx (by omega)
  · have hm : k + 1 ∉ rl := fun hm => by
      obtain ⟨x, hx, e⟩ := List.getElem_of_mem hm
      exact hn x hx (by omega) e
    refine ⟨_, rfl, ?_, ?_, k1.trans k2.wide⟩
    · unfold refE; rw [if_neg hm]; rfl
    · unfold refN; rw [if_neg hm]; exact h1d k2
theorem c100 (h : FRM E w O b Ds H N cap k r rl) (i : Int) : Rets Try.prog 100 #[ptA b 0, .int .i64 i] w fun v w' => w' = w ∧ v = .bool (decide (0 ≤ i ∧ i < Ds.length)) := by
  refine ent [_, _] Try.func100 ((vcTry100 _ _ w _).mpr ?_)
  unfold VCTry100
  obtain ⟨q, c, e0, _, _⟩ := h.disks
  simp only [ptr_some, ad3, Nat.zero_add, Nat.add_zero]
  refine bif_dec (fun hi => ⟨_, _, _, e0, _, rfl, trivial, ?_⟩) (fun hi => ⟨_, rfl, trivial, ?_⟩)
  · congr 1
    rw [decide_eq_decide]
    omega
  · congr 1
    symm
    rw [decide_eq_false_iff_not]
    omega
end Go.Proofs.Ytlgkcbdpaffigaa

namespace Go.Proofs.Ytlgkcbdpaffigaa
open Go Go.SX Go.Proofs
set_option maxRecDepth 100000
set_option linter.unusedVariables false
set_option linter.unusedSimpArgs false
def FRD (E : Nat) (w : World) (O : Nat → Prop) (b : Nat) (f : Fst) (H : List (List Ent)) : Prop :=
  ∃ (Ds : List Nat) (Of : Nat → Prop), FRM E w Of b Ds H (lastE f.S f.ws) f.cap f.k f.r f.rl ∧ Dks RDsk w (fun x => O x ∧ ¬ Of x) Ds f.ds ∧ (∀ x, Of x → O x) ∧ (∀ x, O x → E ≤ x) ∧ Hst f.S f.ws H (lastE f.S f.ws)
variable {E : Nat} {w w' : World} {O O' : Nat → Prop} {b : Nat} {f : Fst} {H : List (List Ent)}
theorem FRD.kp {S' : Nat → Prop} (h : FRD E w O b f H) (k : Kp S' w w') (hE : ∀ i, S' i → E ≤ i) (hs : ∀ x, x < w.heap.size → O x → ¬ S' x ∧ O' x) (hO' : ∀ x, O' x → E ≤ x) : FRD E w' O' b f H := by
  obtain ⟨Ds, Of, h1, h2, h3, h4, h5⟩ := h
  exact ⟨Ds, fun x => Of x ∧ x < w.heap.size, h1.kp k hE (fun x hl hx => ⟨(hs x hl (h3 x hx)).1, hx, hl⟩) fun x hx => h4 x (h3 x hx.1), h2.kp pkR k fun x hl hx => ⟨(hs x hl hx.1).1, (hs x hl hx.1).2, fun hh => hx.2 hh.1⟩, fun x hx => (hs x hx.2 (h3 x hx.1)).2, hO', h5⟩
theorem FRD.kp0 (h : FRD E w O b f H) (k : Kp none_ w w') : FRD E w' O b f H := h.kp k (fun i hi => hi.elim) (fun x _ hx => ⟨id, hx⟩) (by obtain ⟨Ds, Of, h1, h2, h3, h4, h5⟩ := h; exact h4)
theorem FRD.up {z : Nat} (h : FRD E w O b f H) (hz : E ≤ z) : FRD E w (fun x => O x ∨ z ≤ x) b f H := h.kp (Kp.refl none_ _) (fun i hi => hi.elim) (fun x _ hx => ⟨id, .inl hx⟩) (by
  obtain ⟨Ds, Of, h1, h2, h3, h4, h5⟩ := h
  intro x hx
  rcases hx with hx | hx
  · exact h4 x hx
  · omega)
theorem FRD.low {y z : Nat} (h : FRD E w (fun x => O x ∨ y ≤ x) b f H) (hz : z ≤ y) (hE : E ≤ z) (hO : ∀ x, O x → E ≤ x) : FRD E w (fun x => O x ∨ z ≤ x) b f H := h.kp (Kp.refl none_ _) (fun i hi => hi.elim) (fun x _ hx => ⟨id, hx.imp id fun h => by omega⟩) (fun x hx => by rcases hx with hx | hx; exact hO x hx; omega)
theorem FRD.lt (h : FRD E w O b f H) : b < w.heap.size ∧ O b := by
  obtain ⟨Ds, Of, h1, h2, h3, h4, h5⟩ := h
  exact ⟨h1.lt.1, h3 _ h1.lt.2.1⟩
theorem FRD.ge (h : FRD E w O b f H) : ∀ x, O x → E ≤ x := by
  obtain ⟨Ds, Of, h1, h2, h3, h4, h5⟩ := h
  exact h4
theorem FRD.hst (h : FRD E w O b f H) : Hst f.S f.ws H (lastE f.S f.ws) := by
  obtain ⟨Ds, Of, h1, h2, h3, h4, h5⟩ := h
  exact h5
theorem FRD.szE (h : FRD E w O b f H) : E ≤ w.heap.size := by
  have := h.ge _ h.lt.2
  have := h.lt.1
  omega
theorem c99F (h : FRD E w O b f H) (o : Fok f) : Rets Try.prog 99 #[ptA b 0] w fun v w' => v = .bool (decide (refE f.rl f.k = 0)) ∧ FRD E w' O b (cnt f) H ∧ Kp O w w' ∧ w.heap.size ≤ w'.heap.size := by
  have lb := h.lt
  obtain ⟨Ds, Of, h1, h2, h3, h4, h5⟩ := h
  have o1 := o.k
  have o2 := o.r
  have o3 := o.rll
  refine (c99 h1 (by omega) (by omega) (by omega)).mono ?_
  rintro v w1 ⟨rfl, g, k⟩
  exact ⟨rfl, ⟨Ds, Of, g, h2.kp pkR k fun x _ hx => ⟨fun e => hx.2 (by have e : x = b := e; rw [e]; exact h1.lt.2.1), hx⟩, h3, h4, h5⟩, k.mono fun x _ hx => by have hx : x = b := hx; rw [hx]; exact lb.2, k.size⟩
theorem c100F (h : FRD E w O b f H) (i : Int) : Rets Try.prog 100 #[ptA b 0, .int .i64 i] w fun v w' => w' = w ∧ v = .bool (decide (0 ≤ i ∧ i < f.ds.length)) := by
  obtain ⟨Ds, Of, h1, h2, h3, h4, h5⟩ := h
  rw [← h2.len]
  exact c100 h1 i
/-- A disk of the document's. -/
theorem FRD.disk (h : FRD E w O b f H) {i : Nat} (hi : i < f.ds.length) : ∃ (Ds : List Nat) (q : Option Addr) (c : Nat) (col : Col), Ds.length = f.ds.length ∧ w.cell? ⟨b, 0, none⟩ = some (.slice q Ds.length c) ∧ RowsAt w 1 ptC q Ds ∧ RDsk w col (Ds.getD i 0) (f.ds.getD i emptySt) ∧ (∀ x, col x ≠ 0 → O x) ∧
    ∀ {w' : World} {col' : Col} {s' : St}, Kp (ownC col) w w' → Grow col col' w w' → RDsk w' col' (Ds.getD i 0) s' → FRD E w' (fun x => O x ∨ w.heap.size ≤ x) b { f with ds := f.ds.set i s' } H := by
  have sz := h.szE
  obtain ⟨Ds, Of, h1, h2, h3, h4, h5⟩ := h
  have hlen := h2.len
  obtain ⟨q, c, e0, r0, _⟩ := h1.disks
  obtain ⟨col, p, cQ, put⟩ := h2.at pkR hi
  refine ⟨Ds, q, c, col, hlen, e0, r0, p, fun x hx => (cQ x hx).1, ?_⟩
  intro w' col' s' k g p'
  have z := k.size
  exact ⟨Ds, fun x => Of x ∧ x < w.heap.size, h1.kp k (fun x hx => h4 x (cQ x hx).1) (fun x hl hx => ⟨fun hh => (cQ x hh).2 hx, hx, hl⟩) (fun x hx => h4 x (h3 x hx.1)), (put k g p').kp pkR (Kp.refl none_ _) fun x hl hx => ⟨id, by rcases hx with hx | hx; exact ⟨.inl hx.1, fun hh => hx.2 hh.1⟩; exact ⟨.inr hx, fun hh => by have := hh.2; omega⟩⟩, fun x hx => .inl (h3 x hx.1), fun x hx => by rcases hx with hx | hx; exact h4 x hx; omega, h5⟩
theorem FRD.dir (h : FRD E w O b f H) : ∃ Od, RD w Od b 1 H (lastE f.S f.ws) ∧ (∀ x, Od x → O x) := by
  obtain ⟨Ds, Of, ⟨dv, own, Od, rq, rc, h1, h2, h3, h4, h5, h6, h7, h8, h9⟩, g2, g3, g4, g5⟩ := h
  exact ⟨Od, h2, fun x hx => g3 x (h8 x hx)⟩
/-- What is used. -/
theorem c101 (h : FRD E w O b f H) (o : Fok f) : Rets Try.prog 101 #[ptA b 0] w fun v w' => w' = w ∧ v = .int .i64 (usedN f f.ds.length) ∧ (0 ≤ usedN f f.ds.length ∧ usedN f f.ds.length ≤ 4096 * f.ds.length) := by
  refine ent [_] Try.func101 ((vcTry101 _ w _).mpr ?_)
  unfold VCTry101
  have hdl := o.dsl
  have hst := h.hst
  have hwsl := o.wsl
  refine ⟨fun i n w' => ∃ j : Nat, i = j ∧ j ≤ f.ds.length ∧ n = usedN f j ∧ (0 ≤ n ∧ n ≤ 4096 * j) ∧ w' = w, fun i _ _ => (f.ds.length - i).toNat, ⟨0, rfl, by omega, rfl, by omega, rfl⟩, ?_⟩
  rintro i n w1 ⟨j, rfl, hj, rfl, hn, rfl⟩
  obtain ⟨Ds0, Of0, g1, g2, _⟩ := h
  have hlen0 := g2.len
  obtain ⟨q0, c0, e0, _, _⟩ := g1.disks
  have h : FRD E w1 O b f H := ⟨Ds0, Of0, g1, g2, by assumption⟩
  simp only [ptr_some, ad3, Nat.zero_add, Nat.add_zero]
  refine ⟨_, _, _, e0, bif_dec (fun hi => ?_) (fun hi => ?_)⟩
  · have hjl : j < f.ds.length := by omega
    obtain ⟨Od, d, _⟩ := h.dir
    refine (c50 d (by rw [hst.len]; omega) (fun l hl => by have := (hst.wfH l hl).len; omega) (by have := hst.wfN.len; omega) j).mono ?_
    rintro v w2 ⟨e, rfl⟩
    obtain rfl := e.symm
    have hl : ((H ++ [lastE f.S f.ws]).any fun l => idIn l j) = lnk f j := by rw [hst.all]; exact linked_eq hst.wf hst.ok j
    rw [hl]
    refine ⟨_, rfl, (Kp.refl none_ _).keeps0, bif_b (fun ht => ?_) (fun ht => ?_)⟩
    · obtain ⟨Ds, q, c, col, hlen, e1, r1, p, _, _⟩ := h.disk hjl
      have hjD : j < Ds.length := by omega
      have eD : Ds.getD j 0 = Ds[j] := by rw [List.getD_eq_getElem?_getD, List.getElem?_eq_getElem hjD]; rfl
      rw [eD] at p
      have sz := p.ok.size
      obtain ⟨qn, cn, en, _⟩ := p.now
      have eu : usedN f (j + 1) = usedN f j + (f.ds.getD j emptySt).size := by
        show usedN f j + (if lnk f j = true then _ else _) = _
        rw [if_pos ht]
      refine ⟨_, _, _, e1, ⟨by omega, by omega⟩, r1.get hjD fun a ea hc => ⟨_, (cell_add0 _ _).symm.trans (hc 0 _ rfl), ?_⟩⟩
      simp only [ptr_some, ad3, Nat.zero_add, Nat.add_zero]
      exact ⟨_, _, _, en, wr64 (by omega) (wr64 (by omega) ⟨⟨j + 1, by omega, by omega, eu.symm, by omega, trivial⟩, by first | omega | (dsimp only; omega)⟩)⟩
    · have eu : usedN f (j + 1) = usedN f j := by
        show usedN f j + (if lnk f j = true then _ else _) = _
        rw [if_neg (by rw [ht]; simp), Int.add_zero]
      exact wr64 (by omega) ⟨⟨j + 1, by omega, by omega, eu.symm, by omega, rfl⟩, by first | omega | (dsimp only; omega)⟩
  · have ej : j = f.ds.length := by omega
    subst ej
    exact ⟨_, rfl, trivial, rfl, hn⟩
theorem c70 (h : FRD E w O b f H) (o : Fok f) (i : Int) : Rets Try.prog 70 #[ptA b 0, .int .i64 i] w fun v w' => v = .int .i64 (syF f i).1 ∧ FRD E w' (fun x => O x ∨ w.heap.size ≤ x) b (syF f i).2 H ∧ Kp O w w' := by
  refine ent [_, _] Try.func70 ((vcTry70 _ _ w _).mpr ?_)
  unfold VCTry70
  have sz := h.szE
  have ge := h.ge
  refine (c99F h o).mono ?_
  rintro v w1 ⟨rfl, h1, K1, z1⟩
  rcases (refE_or f.rl f.k).symm with e0 | e0
  · have eW : syF f i = (10, cnt f) := by unfold syF; rw [if_pos (by rw [e0]; decide)]
    rw [eW, e0]
    exact ⟨_, rfl, K1.keeps0, bif_not (fun _ => ⟨_, rfl, rfl, h1.up sz, K1⟩) (fun hh => by cases hh)⟩
  rw [e0]
  refine ⟨_, rfl, K1.keeps0, bif_not (fun hh => by cases hh) fun _ => (c100F h1 i).mono ?_⟩
  rintro v w2 ⟨e, rfl⟩
  obtain rfl := e.symm
  refine ⟨_, rfl, (Kp.refl none_ _).keeps0, bif_not (fun hi => ?_) (fun hi => ?_)⟩
  · have hi := of_decide_eq_false hi
    have hi : ¬ (0 ≤ i ∧ i < f.ds.length) := hi
    have eW : syF f i = (1, cnt f) := by unfold syF; rw [if_neg (by rw [e0]; simp), if_pos (by omega)]
    rw [eW]
    exact ⟨_, rfl, rfl, h1.up sz, K1⟩
  · have hi := of_decide_eq_true hi
    have hi : 0 ≤ i ∧ i < f.ds.length := hi
    have eW : syF f i = (0, { cnt f with ds := f.ds.set i.toNat (syncSt (f.ds.getD i.toNat emptySt)) }) := by unfold syF; rw [if_neg (by rw [e0]; simp), if_neg (by omega)]
    rw [eW]
    obtain ⟨j, rfl⟩ : ∃ j : Nat, i = j := ⟨i.toNat, by omega⟩
    have hj : j < (cnt f).ds.length := by show j < f.ds.length; omega
    obtain ⟨Ds, q, c, col, hlen, e1, r1, p, cO, put⟩ := h1.disk hj
    have hlen : Ds.length = f.ds.length := hlen
    have hjD : j < Ds.length := by omega
    have eD : Ds.getD j 0 = Ds[j] := by rw [List.getD_eq_getElem?_getD, List.getElem?_eq_getElem hjD]; rfl
    rw [eD] at p put
    simp only [ptr_some, ad3, Nat.zero_add, Nat.add_zero]
    refine ⟨_, _, _, e1, ⟨by omega, by omega⟩, r1.get hjD fun a ea hc => ⟨_, (cell_add0 _ _).symm.trans (hc 0 _ rfl), (c59 p).mono ?_⟩⟩
    rintro v w3 ⟨rfl, k3, p3⟩
    exact ⟨rfl, k3.keeps0, _, rfl, rfl, (put k3 (Grow.refl p.lt k3.size) p3).low z1 sz ge, K1.then k3 fun x hx hh => cO x hh⟩
end Go.Proofs.Ytlgkcbdpaffigaa

namespace Go.Proofs.Ytlgkcbdpaffigaa
open Go Go.SX Go.Proofs
set_option maxRecDepth 100000
set_option linter.unusedVariables false
set_option linter.unusedSimpArgs false
variable {E : Nat} {w w' : World} {O O' : Nat → Prop} {b : Nat} {f : Fst} {H : List (List Ent)}
theorem FRD.dirOp (h : FRD E w O b f H) : ∃ Od, RD w Od b 1 H (lastE f.S f.ws) ∧ (∀ x, Od x → O x) ∧
    ∀ {w' : World} {S' : List Ent} {ws' : List Chg} {H' : List (List Ent)} {N' : List Ent}, RD w' (fun i => Od i ∨ w.heap.size ≤ i) b 1 H' N' → Kp Od w w' → Nb b 1 2 w w' → Hst S' ws' H' N' → FRD E w' (fun i => O i ∨ w.heap.size ≤ i) b { f with S := S', ws := ws' } H' := by
  have sz := h.szE
  obtain ⟨Ds, Of, ⟨dv, own, Od, rq, rc, h1, h2, h3, h4, h5, h6, h7, h8, h9⟩, g2, g3, g4, g5⟩ := h
  refine ⟨Od, h2, fun x hx => g3 x (h8 x hx), ?_⟩
  intro w' S' ws' H' N' d kk nb hst
  have z := kk.size
  have eN := hst.last
  subst eN
  refine ⟨Ds, fun x => (Of x ∨ w.heap.size ≤ x), ⟨dv, fun i => own i ∧ i < w.heap.size, fun i => (Od i ∨ w.heap.size ≤ i) ∧ i < w'.heap.size, rq, rc, h1.nb kk nb (.inl (by simp)), d.mono fun i hl hi => ⟨hi, hl⟩, h3.nb kk nb (.inr (by omega)), ?_, h5.kp kk fun h0 a e hh => ?_, h6, fun i hi => ⟨.inl (h7 i hi.1).1, fun hh => ?_⟩, fun i hi => ?_, fun i hi => ?_⟩, g2.kp pkR kk fun x hl hx => ⟨fun hh => hx.2 (h8 x hh), .inl hx.1, fun hh => ?_⟩, fun x hx => hx.imp (g3 x) id, fun x hx => ?_, hst⟩
  · exact (h4.mono (own' := fun i => own i ∧ i < w.heap.size) fun i hi hl => ⟨hi, hl⟩).kp kk fun g n cap _ hg => (h7 g hg.1).2
  · have := h6 h0 a e; have := h9 _ (h8 _ hh); omega
  · rcases hh.1 with hh | hh
    · exact (h7 i hi.1).2 hh
    · have := hi.2; omega
  · rcases hi.1 with hh | hh
    · exact .inl (h8 i hh)
    · exact .inr hh
  · rcases hi with hi | hi
    · exact h9 i hi
    · omega
  · rcases hh with hh | hh
    · exact hx.2 hh
    · omega
  · rcases hx with hx | hx
    · exact g4 x hx
    · omega
theorem c71 (h : FRD E w O b f H) (o : Fok f) : Rets Try.prog 71 #[ptA b 0] w fun v w' => v = .int .i64 (sdF f).1 ∧ (∃ H', FRD E w' (fun x => O x ∨ w.heap.size ≤ x) b (sdF f).2 H') ∧ Kp O w w' := by
  refine ent [_] Try.func71 ((vcTry71 _ w _).mpr ?_)
  unfold VCTry71
  have sz := h.szE
  have ge := h.ge
  refine (c99F h o).mono ?_
  rintro v w1 ⟨rfl, h1, K1, z1⟩
  rcases (refE_or f.rl f.k).symm with e0 | e0
  · have eW : sdF f = (10, cnt f) := by unfold sdF; rw [if_pos (by rw [e0]; decide)]
    rw [eW, e0]
    exact ⟨_, rfl, K1.keeps0, bif_not (fun _ => ⟨_, rfl, rfl, ⟨_, h1.up sz⟩, K1⟩) (fun hh => by cases hh)⟩
  · have eW : sdF f = (0, { cnt f with S := lastE f.S f.ws, ws := [] }) := by unfold sdF; rw [if_neg (by rw [e0]; simp)]
    rw [eW, e0]
    obtain ⟨Od, d, dO, go⟩ := h1.dirOp
    obtain ⟨s1, s2, d2, k2, _⟩ := d.clear
    refine ⟨_, rfl, K1.keeps0, bif_not (fun hh => by cases hh) fun _ => ?_⟩
    simp only [ptr_some, ad3, Nat.zero_add, Nat.add_zero]
    refine ⟨s1, s2, _, rfl, rfl, ⟨_, (go (d2.mono fun i _ hi => .inl hi) k2 (Nb.set w1 (b := b) (o := 1) (i := 1) (by omega) _) h1.hst.sync).low z1 sz ge⟩, K1.then k2 fun x hx hh => dO x hh⟩
theorem c72 (h : FRD E w O b f H) (o : Fok f) (hO : ∀ x, O x → x < w.heap.size) (a t : List UInt8) : Rets Try.prog 72 #[ptA b 0, .string (ba a), .string (ba t)] w fun v w' => v = .int .i64 (rnF f a t).1 ∧ (∃ H', FRD E w' (fun x => O x ∨ w.heap.size ≤ x) b (rnF f a t).2 H') ∧ Kp O w w' := by
  refine ent [_, _, _] Try.func72 ((vcTry72 _ _ _ w _).mpr ?_)
  unfold VCTry72
  have sz := h.szE
  have ge := h.ge
  refine (c99F h o).mono ?_
  rintro v w1 ⟨rfl, h1, K1, z1⟩
  rcases (refE_or f.rl f.k).symm with e0 | e0
  · have eW : rnF f a t = (10, cnt f) := by unfold rnF; rw [if_pos (by rw [e0]; decide)]
    rw [eW, e0]
    exact ⟨_, rfl, K1.keeps0, bif_not (fun _ => ⟨_, rfl, rfl, ⟨_, h1.up sz⟩, K1⟩) (fun hh => by cases hh)⟩
  · have eW : rnF f a t = (renameE (lastE f.S f.ws) a t, { cnt f with ws := if renameE (lastE f.S f.ws) a t = 0 then f.ws ++ [⟨a, t, 0⟩] else f.ws }) := by unfold rnF; rw [if_neg (by rw [e0]; simp)]
    rw [eW, e0]
    obtain ⟨Od, d, dO, go⟩ := h1.dirOp
    have d : RD w1 Od b 1 H (lastE f.S f.ws) := d
    have hst : Hst f.S f.ws H (lastE f.S f.ws) := h1.hst
    have wN := hst.wfN
    have hlen := hst.len
    have hws := o.wsl
    refine ⟨_, rfl, K1.keeps0, bif_not (fun hh => by cases hh) fun _ => ?_⟩
    simp only [ptr_some, ad3, Nat.zero_add, Nat.add_zero]
    refine (c79 d (fun i hi => by have := hO i (dO i hi); omega) (by omega) (by have := wN.len; omega) (asc_nk wN.asc) a t).mono ?_
    rintro v w2 ⟨rfl, r2, k2, n2⟩
    refine ⟨_, rfl, k2.keeps0, _, rfl, rfl, ?_, K1.then k2 fun x hx hh => dO x hh⟩
    by_cases hE : renameE (lastE f.S f.ws) a t = 0
    · rw [if_pos hE] at r2 ⊢
      rw [if_pos hE] at r2
      obtain ⟨g1, g2⟩ := rename_ok wN hE
      rw [g2] at r2
      exact ⟨_, (go r2 k2 n2 (hst.snoc g1)).low z1 sz ge⟩
    · rw [if_neg hE] at r2 ⊢
      rw [if_neg hE] at r2
      exact ⟨_, (go r2 k2 n2 hst).low z1 sz ge⟩
theorem c73 (h : FRD E w O b f H) (o : Fok f) (hO : ∀ x, O x → x < w.heap.size) (a : List UInt8) : Rets Try.prog 73 #[ptA b 0, .string (ba a)] w fun v w' => v = .int .i64 (rmF f a).1 ∧ (∃ H', FRD E w' (fun x => O x ∨ w.heap.size ≤ x) b (rmF f a).2 H') ∧ Kp O w w' := by
  refine ent [_, _] Try.func73 ((vcTry73 _ _ w _).mpr ?_)
  unfold VCTry73
  have sz := h.szE
  have ge := h.ge
  refine (c99F h o).mono ?_
  rintro v w1 ⟨rfl, h1, K1, z1⟩
  rcases (refE_or f.rl f.k).symm with e0 | e0
  · have eW : rmF f a = (10, cnt f) := by unfold rmF; rw [if_pos (by rw [e0]; decide)]
    rw [eW, e0]
    exact ⟨_, rfl, K1.keeps0, bif_not (fun _ => ⟨_, rfl, rfl, ⟨_, h1.up sz⟩, K1⟩) (fun hh => by cases hh)⟩
  · have eW : rmF f a = (removeE (lastE f.S f.ws) a, { cnt f with ws := if removeE (lastE f.S f.ws) a = 0 then f.ws ++ [⟨a, [], 0⟩] else f.ws }) := by unfold rmF; rw [if_neg (by rw [e0]; simp)]
    rw [eW, e0]
    obtain ⟨Od, d, dO, go⟩ := h1.dirOp
    have d : RD w1 Od b 1 H (lastE f.S f.ws) := d
    have hst : Hst f.S f.ws H (lastE f.S f.ws) := h1.hst
    have wN := hst.wfN
    have hlen := hst.len
    have hws := o.wsl
    refine ⟨_, rfl, K1.keeps0, bif_not (fun hh => by cases hh) fun _ => ?_⟩
    simp only [ptr_some, ad3, Nat.zero_add, Nat.add_zero]
    refine (c80 d (fun i hi => by have := hO i (dO i hi); omega) (by omega) (by have := wN.len; omega) a).mono ?_
    rintro v w2 ⟨rfl, r2, k2, n2⟩
    refine ⟨_, rfl, k2.keeps0, _, rfl, rfl, ?_, K1.then k2 fun x hx hh => dO x hh⟩
    by_cases hE : removeE (lastE f.S f.ws) a = 0
    · rw [if_pos hE] at r2 ⊢
      rw [if_pos hE] at r2
      obtain ⟨g1, g2⟩ := remove_ok hE
      rw [g2] at r2
      exact ⟨_, (go r2 k2 n2 (hst.snoc g1)).low z1 sz ge⟩
    · rw [if_neg hE] at r2 ⊢
      rw [if_neg hE] at r2
      exact ⟨_, (go r2 k2 n2 hst).low z1 sz ge⟩
end Go.Proofs.Ytlgkcbdpaffigaa

namespace Go.Proofs.Ytlgkcbdpaffigaa
open Go Go.SX Go.Proofs
set_option maxRecDepth 100000
set_option linter.unusedVariables false
set_option linter.unusedSimpArgs false
variable {E : Nat} {w w' : World} {O O' : Nat → Prop} {b : Nat} {f : Fst} {H : List (List Ent)}
theorem und123 : Try.prog.underlying 123 = some (.slice 37) := Try.underlying123
theorem elem37 : elemOk Try.prog 37 1 = true := by kernel_rfl
theorem FRD.cells (h : FRD E w O b f H) : (∃ q c, w.cell? ⟨b, 0, none⟩ = some (.slice q f.ds.length c)) ∧ w.cell? ⟨b, 3, none⟩ = some (.int .i64 f.cap) ∧ w.cell? ⟨b, 5, none⟩ = some (.int .i64 f.r) := by
  obtain ⟨Ds, Of, h1, g2, g3, g4, g5⟩ := h
  obtain ⟨q, c, e0, _⟩ := h1.disks
  rw [g2.len] at e0
  obtain ⟨dv, own, Od, rq, rc, h1, h2, h3, h4, h5, h6, h7, h8, h9⟩ := h1
  exact ⟨⟨q, c, e0⟩, h3.get 0 rfl, h3.get 2 rfl⟩
theorem FRD.setR (h : FRD E w O b f H) (r' : Int) : (∃ v, w.cell? ⟨b, 5, none⟩ = some v) ∧ w.frozen? ⟨b, 5, none⟩ = false ∧ FRD E (w.setCell ⟨b, 5, none⟩ (.int .i64 r')) O b { f with r := r' } H ∧ Kp O w (w.setCell ⟨b, 5, none⟩ (.int .i64 r')) := by
  have lb := h.lt
  obtain ⟨Ds, Of, h1, h2, h3, h4, h5⟩ := h
  obtain ⟨x1, x2, x3, x4⟩ := h1.set (j := 2) (by omega) (cap' := f.cap) (k' := f.k) (r' := r') (u := r') rfl
  exact ⟨x3, x4, ⟨Ds, Of, x1, h2.kp pkR x2 fun x _ hx => ⟨fun e => hx.2 (by have e : x = b := e; rw [e]; exact h1.lt.2.1), hx⟩, h3, h4, h5⟩, x2.mono fun x _ hx => by have hx : x = b := hx; rw [hx]; exact lb.2⟩
theorem c69 (h : FRD E w O b f H) (o : Fok f) (hk : f.k < 100000) (hr : f.r < 100000) {q : Option Addr} {n cp : Nat} {bf : Int → Int} (hb : Ints w .u8 q n bf) (hby : ∀ i : Int, 0 ≤ i → i < n → isByte (bf i)) (hcp : n ≤ cp) (hq : 0 < n → ∀ a, q = some a → ¬ O a.block) (i at_ : Int) (hw : ∀ s ∈ f.ds, s.wait.length ≤ 90000) :
    Rets Try.prog 69 #[ptA b 0, .int .i64 i, .int .i64 at_, .slice q n cp] w fun v w' => v = .int .i64 (wrF f i at_ n bf).1 ∧ FRD E w' (fun x => O x ∨ w.heap.size ≤ x) b (wrF f i at_ n bf).2 H ∧ Kp O w w' := by
  refine ent [_, _, _, _] Try.func69 ((vcTry69 _ _ _ _ _ _ w _).mpr ?_)
  unfold VCTry69
  have sz := h.szE
  have ge := h.ge
  refine (c99F h o).mono ?_
  rintro v w1 ⟨rfl, h1, K1, z1⟩
  have o1 := cnt_ok o hk hr
  rcases (refE_or f.rl f.k).symm with e0 | e0
  · have eW : wrF f i at_ n bf = (10, cnt f) := by unfold wrF; rw [if_pos (by rw [e0]; decide)]
    rw [eW, e0]
    exact ⟨_, rfl, K1.keeps0, bif_not (fun _ => ⟨_, rfl, rfl, h1.up sz, K1⟩) (fun hh => by cases hh)⟩
  rw [e0]
  refine ⟨_, rfl, K1.keeps0, bif_not (fun hh => by cases hh) fun _ => (c100F h1 i).mono ?_⟩
  rintro v w2 ⟨e, rfl⟩
  obtain rfl := e.symm
  refine ⟨_, rfl, (Kp.refl none_ _).keeps0, bif_not (fun hi => ?_) (fun hi => ?_)⟩
  · have hi := of_decide_eq_false hi
    have hi : ¬ (0 ≤ i ∧ i < f.ds.length) := hi
    have eW : wrF f i at_ n bf = (1, cnt f) := by unfold wrF; rw [if_neg (by rw [e0]; simp), if_pos (by omega)]
    rw [eW]
    exact ⟨_, rfl, rfl, h1.up sz, K1⟩
  have hi := of_decide_eq_true hi
  have hi : 0 ≤ i ∧ i < f.ds.length := hi
  refine (c95 w1 at_ n).mono ?_
  rintro v w2 ⟨rfl, e⟩
  obtain rfl := e.symm
  refine ⟨_, rfl, (Kp.refl none_ _).keeps0, bif_not (fun hr0 => ?_) (fun hr1 => ?_)⟩
  · have eW : wrF f i at_ n bf = (1, cnt f) := by unfold wrF; rw [if_neg (by rw [e0]; simp), if_pos (.inr (.inr hr0))]
    rw [eW]
    exact ⟨_, rfl, rfl, h1.up sz, K1⟩
  obtain ⟨j, rfl⟩ : ∃ j : Nat, i = j := ⟨i.toNat, by omega⟩
  have hj : j < (cnt f).ds.length := by show j < f.ds.length; omega
  obtain ⟨Ds, q1, c1, col, hlen, e1, r1, p, cO, put⟩ := h1.disk hj
  have hlen : Ds.length = f.ds.length := hlen
  have hjD : j < Ds.length := by omega
  have eD : Ds.getD j 0 = Ds[j] := by rw [List.getD_eq_getElem?_getD, List.getElem?_eq_getElem hjD]; rfl
  rw [eD] at p put
  have p : RDsk w1 col Ds[j] (f.ds.getD j emptySt) := p
  have eW : wrF f j at_ n bf = if needF (f.ds.getD j emptySt) at_ n > (f.ds.getD j emptySt).size ∧ needF (f.ds.getD j emptySt) at_ n - (f.ds.getD j emptySt).size > f.cap - usedN f f.ds.length then (9, { cnt f with r := (cnt f).r + 1 }) else (0, { cnt f with ds := f.ds.set j (if rightF at_ n = true ∧ n ≠ 0 then writeSt (f.ds.getD j emptySt) at_ n bf else f.ds.getD j emptySt) }) := by
    unfold wrF
    rw [if_neg (by rw [e0]; simp), if_neg (by rw [hr1]; simp; omega), Int.toNat_natCast]
  have hmem : f.ds.getD j emptySt ∈ f.ds := List.mem_of_getElem? (getD_get f.ds emptySt (i := j) hj)
  have szo := p.ok.size
  have nO : needF (f.ds.getD j emptySt) at_ n ≤ 4200 ∧ 0 ≤ needF (f.ds.getD j emptySt) at_ n := by
    have hr2 := of_decide_eq_true hr1
    unfold needF
    split <;> omega
  have k0 : Kp none_ w1 w1.drew := Kp.drew1
  have hrest : (¬ (needF (f.ds.getD j emptySt) at_ n > (f.ds.getD j emptySt).size ∧ needF (f.ds.getD j emptySt) at_ n - (f.ds.getD j emptySt).size > f.cap - usedN f f.ds.length)) → ∀ {W : World}, Kp none_ w1 W → Rets Try.prog 58 #[.pointer (some ⟨Ds[j], 0, none⟩), .int .i64 at_, .slice q n cp] W fun v w3 => ∃ i3 : Int, v = .int .i64 i3 ∧ Keeps W w3 [] ∧ ∃ v, Ending.returned (.int .i64 i3) = Ending.returned v ∧ v = .int .i64 (wrF f j at_ n bf).1 ∧ FRD E w3 (fun x => O x ∨ w.heap.size ≤ x) b (wrF f j at_ n bf).2 H ∧ Kp O w w3 := fun hc {W} kW => by
    rw [eW, if_neg hc]
    have zW := kW.size
    have hqW : 0 < n → ∀ a, q = some a → col a.block = 0 := fun h0 a e => by
      by_cases ec : col a.block = 0
      · exact ec
      · exact absurd (cO _ ec) (hq h0 a e)
    have hbW : Ints W .u8 q n bf := ((hb.kp K1 fun h0 a e => hq h0 a e).kp kW fun _ _ _ => id)
    refine (c58 (p.kp0 kW) hbW hby hcp hqW (hw _ hmem) at_).mono ?_
    rintro v w3 ⟨rfl, k3, col', g3, p3⟩
    have kk := kW.wide.trans k3
    have F3 := put kk ⟨fun i hi => g3.1 i (by omega), g3.2⟩ p3
    exact ⟨_, rfl, k3.keeps0, _, rfl, by rw [if_pos hr1], F3.low z1 sz ge, K1.then kk fun x hx hh => cO x hh⟩
  obtain ⟨qn, cn, en, _⟩ := p.now
  obtain ⟨⟨q0, c0, e00⟩, e3, e5⟩ := h1.cells
  have oc := o.cap
  have odl := o.dsl
  have oc1 := o1.r
  simp only [ptr_some, ad3, Nat.zero_add, Nat.add_zero]
  refine ⟨_, _, _, e1, ⟨by omega, by omega⟩, r1.get hjD fun a ea hc => ⟨_, (cell_add0 _ _).symm.trans (hc 0 _ rfl), ?_⟩⟩
  simp only [ptr_some, ad3, Nat.zero_add, Nat.add_zero]
  refine ⟨_, _, _, k0.cell0 en, (c96 (p.kp0 k0) at_ n hr1).mono ?_⟩
  rintro v w2 ⟨rfl, e⟩
  obtain rfl := e.symm
  refine ⟨_, rfl, (Kp.refl none_ _).keeps0, k0.cell0 en, wr64 (by omega) (bif_dec (fun hm => ?_) (fun hm => hrest (fun hc => hm (by omega)) k0.drew))⟩
  refine ⟨_, k0.drew.cell0 e3, (c101 (h1.kp0 k0.drew) o1).mono ?_⟩
  rintro v w3 ⟨e, rfl, hu⟩
  obtain rfl := e.symm
  have eu : usedN (cnt f) (cnt f).ds.length = usedN f f.ds.length := usedN_cnt f _
  rw [eu] at hu ⊢
  have hu : 0 ≤ usedN f f.ds.length ∧ usedN f f.ds.length ≤ 4096 * f.ds.length := hu
  refine ⟨_, rfl, (Kp.refl none_ _).keeps0, k0.drew.cell0 e3, wr64 (by omega) (bif_dec (fun hs => ?_) (fun hs => hrest (fun hc => hs (by have := hc.2; show _ > f.cap; omega)) k0.drew))⟩
  have hs : usedN f f.ds.length + (needF (f.ds.getD j emptySt) at_ n - (f.ds.getD j emptySt).size) > f.cap := hs
  rw [eW, if_pos ⟨by omega, by omega⟩]
  obtain ⟨x2, x3, x4, x5⟩ := (h1.kp0 k0.drew).setR ((cnt f).r + 1)
  exact ⟨_, k0.drew.cell0 e5, wr64 (by omega) ⟨x2, x3, _, rfl, rfl, x4.up sz, (K1.trans k0.drew.wide).trans x5⟩⟩
end Go.Proofs.Ytlgkcbdpaffigaa

namespace Go.Proofs.Ytlgkcbdpaffigaa
open Go Go.SX Go.Proofs
set_option maxRecDepth 100000
set_option linter.unusedVariables false
set_option linter.unusedSimpArgs false
variable {E : Nat} {w w' : World} {O O' : Nat → Prop} {b : Nat} {f : Fst} {H : List (List Ent)}
theorem c68 (h : FRD E w O b f H) (o : Fok f) (hO : ∀ x, O x → x < w.heap.size) (a : List UInt8) : Rets Try.prog 68 #[ptA b 0, .string (ba a)] w fun v w' => v = .tuple #[.int .i64 (if newF f a = 0 then f.ds.length else 0), .int .i64 (newF f a)] ∧ (∃ H', FRD E w' (fun x => O x ∨ w.heap.size ≤ x) b (mkF f a) H') ∧ Kp O w w' := by
  refine ent [_, _] Try.func68 ((vcTry68 _ _ w _).mpr ?_)
  unfold VCTry68
  have sz := h.szE
  have ge := h.ge
  have lb := h.lt
  refine (c99F h o).mono ?_
  rintro v w1 ⟨rfl, h1, K1, z1⟩
  have hdl := o.dsl
  rcases (refE_or f.rl f.k).symm with e0 | e0
  · have eN : newF f a = 10 := by unfold newF; rw [if_pos (by rw [e0]; decide), e0.symm, e0]
    have eM : mkF f a = cnt f := by unfold mkF; rw [if_neg (by rw [eN]; decide)]
    rw [eM, eN, e0]
    exact ⟨_, rfl, K1.keeps0, bif_not (fun _ => ⟨_, rfl, rfl, ⟨_, h1.up sz⟩, K1⟩) (fun hh => by cases hh)⟩
  rw [e0]
  refine ⟨_, rfl, K1.keeps0, bif_not (fun hh => by cases hh) fun _ => ?_⟩
  simp only [ptr_some, ad3, Nat.zero_add, Nat.add_zero]
  have hst : Hst f.S f.ws H (lastE f.S f.ws) := h1.hst
  have wN := hst.wfN
  have hlenH := hst.len
  have hws := o.wsl
  have hfull := h1
  obtain ⟨Ds, Of, g1, g2, g3, g4, g5⟩ := h1
  have hlen : Ds.length = f.ds.length := g2.len
  obtain ⟨q, c, e1, _, _⟩ := g1.disks
  refine ⟨_, _, _, e1, bif_dec (fun hn => ?_) (fun hn => ?_)⟩
  · have eN : newF f a = 14 := by unfold newF; rw [if_neg (by rw [e0]; simp), if_pos (by omega)]
    have eM : mkF f a = cnt f := by unfold mkF; rw [if_neg (by rw [eN]; decide)]
    rw [eM, eN]
    exact ⟨_, rfl, rfl, ⟨_, hfull.up sz⟩, K1⟩
  have eN : newF f a = createE (lastE f.S f.ws) a := by unfold newF; rw [if_neg (by rw [e0]; simp), if_neg (by omega)]
  have k0 : Kp none_ w1 w1.drew := Kp.drew1
  refine ⟨_, _, _, k0.cell0 e1, ?_⟩
  have g1' := g1
  obtain ⟨dv, own, Od, rq, rc, h1, h2, h3, h4, h5, h6, h7, h8, h9⟩ := g1
  have dlt : ∀ i, Od i → i < w1.drew.heap.size := fun i hi => by
    have := hO i (g3 i (h8 i hi))
    show i < w1.heap.size
    omega
  have h2 : RD w1 Od b 1 H (lastE f.S f.ws) := h2
  refine (c78 (h2.kp0 k0) dlt (by omega) (by have := wN.len; omega) a Ds.length).mono ?_
  rintro v w2 ⟨rfl, d2, kd, n2⟩
  have k2 : Kp Od w1 w2 := (k0.wide (S := Od)).trans kd
  have n2 : Nb b 1 2 w1 w2 := (Nb.of_kp k0 h2.lt.1 id).trans n2
  have d2 : RD w2 (fun i => Od i ∨ w1.heap.size ≤ i) b 1 (if createE (lastE f.S f.ws) a = 0 then H ++ [lastE f.S f.ws] else H) (if createE (lastE f.S f.ws) a = 0 then with5 (lastE f.S f.ws) a Ds.length else lastE f.S f.ws) := d2
  have z2 := k2.size
  have K2 : Kp O w w2 := K1.then k2 fun x hx hh => g3 x (h8 x hh)
  have c1' : Cs w2 b 0 [dv] := h1.nb k2 n2 (.inl (by simp))
  have c3' := h3.nb k2 n2 (.inr (by omega))
  have row' : OwnRow w2 (fun i => own i ∧ i < w1.heap.size) 37 1 dv Ds.length (flatC ptC Ds) := (h4.mono (own' := fun i => own i ∧ i < w1.heap.size) fun i hi hl => ⟨hi, hl⟩).kp k2 fun g n cap _ hg => (h7 g hg.1).2
  have rl' : RowsAt w2 1 intC rq f.rl := h5.kp k2 fun h0 a e hh => by have := h6 h0 a e; have := h9 _ (h8 _ hh); omega
  have h6 : 0 < f.rl.length → ∀ a, rq = some a → a.block < E := h6
  have d2' : RD w2 (fun i => (Od i ∨ w1.heap.size ≤ i) ∧ i < w2.heap.size) b 1 _ _ := d2.mono fun i hl hi => ⟨hi, hl⟩
  have nO : ∀ i, own i ∧ i < w1.heap.size → ¬ ((Od i ∨ w1.heap.size ≤ i) ∧ i < w2.heap.size) := fun i hi hh => by
    rcases hh.1 with hh | hh
    · exact (h7 i hi.1).2 hh
    · omega
  refine ⟨_, rfl, kd.keeps0, bif_ne (fun hC => ?_) (fun hC => ?_)⟩
  · have eM : mkF f a = cnt f := by unfold mkF; rw [if_neg (by rw [eN]; exact hC)]
    rw [if_neg hC, if_neg hC] at d2'
    rw [eM, eN, if_neg hC]
    refine ⟨_, rfl, rfl, ⟨_, Ds, fun x => Of x ∨ w1.heap.size ≤ x, ⟨dv, _, _, rq, rc, c1', d2', c3', row', rl', h6, fun i hi => ⟨.inl (h7 i hi.1).1, nO i hi⟩, fun i hi => hi.1.imp (h8 i) id, fun i hi => ?_⟩, g2.kp pkR k2 fun x hl hx => ⟨fun hh => hx.2 (h8 x hh), .inl hx.1, fun hh => ?_⟩, fun x hx => ?_, fun x hx => ?_, hst⟩, K2⟩
    · rcases hi with hi | hi
      · exact h9 i hi
      · omega
    · rcases hh with hh | hh
      · exact hx.2 hh
      · omega
    · rcases hx with hx | hx
      · exact .inl (g3 x hx)
      · exact .inr (by omega)
    · rcases hx with hx | hx
      · exact ge x hx
      · omega
  · rw [if_pos hC, if_pos hC] at d2'
    obtain ⟨ok, ee⟩ := create_ok wN hC (Ds.length : Int)
    rw [ee] at d2'
    have hst2 := hst.snoc ok
    have eM : mkF f a = { cnt f with ds := f.ds ++ [emptySt], ws := f.ws ++ [⟨[], a, f.ds.length⟩] } := by unfold mkF; rw [if_pos (by rw [eN]; exact hC)]
    rw [eM, eN, hC, if_pos rfl]
    obtain ⟨qd, cd, rfl⟩ := row'.slice
    have k3 : Kp none_ w2 (w2.alloc (.cells #[.slice none 0 0, .slice none 0 0, .slice none 0 0, .slice none 0 0] 34)) := (Kp.refl none_ _).alloc1 _
    have z3 : (w2.alloc (.cells #[.slice none 0 0, .slice none 0 0, .slice none 0 0, .slice none 0 0] 34)).heap.size = w2.heap.size + 1 := alloc_size _ _
    have B3 : Big (w2.alloc (.cells #[.slice none 0 0, .slice none 0 0, .slice none 0 0, .slice none 0 0] 34)) w2.heap.size 34 [.slice none 0 0, .slice none 0 0, .slice none 0 0, .slice none 0 0] := Big.new _ _ 34
    refine ⟨_, _, _, c1'.get 0 rfl, ?_⟩
    generalize w2.alloc (.cells #[.slice none 0 0, .slice none 0 0, .slice none 0 0, .slice none 0 0] 34) = w3 at *
    have row3 : OwnRow w3 (fun i => own i ∧ i < w1.heap.size) 37 1 (.slice qd Ds.length cd) Ds.length (flatC ptC Ds) := row'.kp k3 fun _ _ _ _ _ => id
    refine push_row (l := Ds) w2.heap.size (cs := #[.pointer (some ⟨w2.heap.size, 0, none⟩)]) ptC_len ptC_one (by omega) und123 elem37 rfl row3 rfl (by omega) fun q' c' w4 ro k4 ka => ?_
    have z4 := k4.size
    have lb1 : b < w1.heap.size := by have := lb.1; omega
    have nb_ : ¬ (own b ∧ b < w1.heap.size) := fun hh => (h7 b hh.1).2 h2.lt.2
    have nd : ¬ (own w2.heap.size ∧ w2.heap.size < w1.heap.size) := fun hh => by omega
    have c1'' := (c1'.kp0 k3).kp k4 nb_
    obtain ⟨s1, s2⟩ := c1''.slot 0 (by simp)
    have bd : b ≠ w2.heap.size := by omega
    refine ⟨_, _, _, rfl, ka.keeps fun i hi => ?_, s1, s2, .inl bd, ?_⟩
    · rw [List.mem_singleton] at hi
      subst hi
      exact ⟨by rw [alloc_size]; omega, nd⟩
    have k5 : Kp (one_ b) w4 (w4.setCell ⟨b, 0, none⟩ (.slice q' (Ds.length + 1) c')) := kp_set _ _ _ _
    have n5 : Nb b 0 1 w4 (w4.setCell ⟨b, 0, none⟩ (.slice q' (Ds.length + 1) c')) := Nb.set w4 (b := b) (o := 0) (i := 0) (by omega) _
    have c5 : Cs (w4.setCell ⟨b, 0, none⟩ (.slice q' (Ds.length + 1) c')) b 0 [.slice q' (Ds.length + 1) c'] := c1''.set 0 _
    have z5 : (w4.setCell ⟨b, 0, none⟩ (.slice q' (Ds.length + 1) c')).heap.size = w4.heap.size := set_size _ _ _
    generalize w4.setCell ⟨b, 0, none⟩ (.slice q' (Ds.length + 1) c') = w5 at *
    have D5 := ((d2'.kp0 k3).kp k4 fun i _ hi => ⟨fun ho => nO i ho hi, hi⟩).nb k5 n5 (.inr (by omega))
    have C5 := ((c3'.kp0 k3).kp k4 nb_).nb k5 n5 (.inr (by omega))
    have R5 : RowsAt w5 1 intC rq f.rl := ((rl'.kp0 k3).kp k4 fun h0 a e hh => by have := h6 h0 a e; have := h9 _ (h7 _ hh.1).1; omega).kp k5 fun h0 a e hh => by have := h6 h0 a e; have := h9 _ (h8 _ h2.lt.2); have hh : a.block = b := hh; omega
    have ro5 : OwnRow w5 (fun i => (own i ∧ i < w1.heap.size) ∨ fresh w3 i) 37 1 (.slice q' (Ds.length + 1) c') (Ds ++ [w2.heap.size]).length (flatC ptC (Ds ++ [w2.heap.size])) := ro.kp k5 fun g n cap _ hg e => by
      have e : g = b := e
      rw [e] at hg
      rcases hg with hg | hg
      · exact nb_ hg
      · have hg : w3.heap.size ≤ b := hg
        omega
    have B5 := (B3.kp k4 nd).kp k5 (fun e => bd e.symm)
    have p5 := RDsk.new B5.lt (fun o => B5.frz o) (B5.cell 0) (B5.cell 1) (B5.cell 2) (B5.cell 3)
    have K5 : Kp (fun x => O x ∧ Of x) w1 w5 := (((k2.mono fun x _ hh => ⟨g3 x (h8 x hh), h8 x hh⟩).trans k3.wide).then k4 fun x hx hh => ⟨g3 x (h7 x hh.1).1, (h7 x hh.1).1⟩).trans (k5.mono fun x _ hx => by have hx : x = b := hx; rw [hx]; exact ⟨lb.2, h8 _ h2.lt.2⟩)
    have dk := (g2.kp pkR K5 (Q' := fun x => (O x ∧ ¬ Of x) ∧ x < w1.heap.size) fun x hl hx => ⟨fun hh => hx.2 hh.2, hx, hl⟩).snoc pkR p5 (fun hh => by omega)
    have eL : doL (lastE f.S f.ws) ⟨[], a, Ds.length⟩ = lastE f.S (f.ws ++ [⟨[], a, f.ds.length⟩]) := by rw [last_snoc, hlen]
    rw [eL] at D5 hst2
    rw [hlen] at hst2
    have fin : FRD E w5 (fun x => O x ∨ w.heap.size ≤ x) b { cnt f with ds := f.ds ++ [emptySt], ws := f.ws ++ [⟨[], a, f.ds.length⟩] } (H ++ [lastE f.S f.ws]) := by
      refine ⟨Ds ++ [w2.heap.size], fun x => Of x ∨ (w1.heap.size ≤ x ∧ x ≠ w2.heap.size), ⟨_, _, _, rq, rc, c5, D5, C5, ro5, R5, h6, fun i hi => ?_, fun i hi => ?_, fun i hi => ?_⟩, dk.kp pkR (Kp.refl none_ _) fun x hl hx => ⟨id, ?_⟩, fun x hx => ?_, fun x hx => ?_, hst2⟩
      · rcases hi with hi | hi
        · exact ⟨.inl (h7 i hi.1).1, nO i hi⟩
        · have hi : w3.heap.size ≤ i := hi
          exact ⟨.inr ⟨by omega, by omega⟩, fun hh => by have := hh.2; omega⟩
      · rcases hi.1 with hh | hh
        · exact .inl (h8 i hh)
        · exact .inr ⟨hh, by have := hi.2; omega⟩
      · rcases hi with hi | hi
        · exact h9 i hi
        · omega
      · rcases hx with ⟨hx, hl1⟩ | rfl
        · exact ⟨.inl hx.1, fun hh => by rcases hh with hh | hh; exact hx.2 hh; omega⟩
        · exact ⟨.inr (by omega), fun hh => by rcases hh with hh | hh; exact absurd (hO _ (g3 _ hh)) (by omega); exact hh.2 rfl⟩
      · rcases hx with hx | hx
        · exact .inl (g3 x hx)
        · exact .inr (by omega)
      · rcases hx with hx | hx
        · exact ge x hx
        · omega
    refine ⟨_, _, _, c5.get 0 rfl, wr64 (by omega) fun _ => ⟨_, rfl, ?_, ⟨_, fin⟩, K1.then K5 fun x hx hh => hh.1⟩⟩
    rw [← hlen, show ((Ds.length + 1 : Nat) : Int) - 1 = (Ds.length : Int) by omega]
end Go.Proofs.Ytlgkcbdpaffigaa

namespace Go.Proofs.Ytlgkcbdpaffigaa
open Go Go.SX Go.Proofs
set_option maxRecDepth 100000
set_option linter.unusedVariables false
set_option linter.unusedSimpArgs false
theorem keepsA_alike (s : St) {n1 n2 : Nat} {k1 k2 : Nat → Bool} : ∀ m, (∀ k, k < m → ((k < n1 ∧ k1 k = true) ↔ (k < n2 ∧ k2 k = true))) → keepsA s n1 k1 m = keepsA s n2 k2 m
  | 0, _ => rfl
  | m + 1, h => by
    have ih := keepsA_alike s (n1 := n1) (n2 := n2) (k1 := k1) (k2 := k2) m fun k hk => h k (by omega)
    unfold keepsA
    rw [ih]
    cases s.wait[m]? with
    | none => rfl
    | some e =>
      by_cases hc : m < n1 ∧ k1 m = true
      · simp only [if_pos hc, if_pos ((h m (by omega)).1 hc)]
      · simp only [if_neg hc, if_neg fun hh => hc ((h m (by omega)).2 hh)]
def bl (n : Nat) (kb : Nat → Bool) (at_ m : Nat) : List Bool := (List.range m).map fun k => decide (at_ + k < n) && kb (at_ + k)
theorem bl_len (n : Nat) (kb : Nat → Bool) (at_ m : Nat) : (bl n kb at_ m).length = m := by simp [bl]
theorem bl_succ (n : Nat) (kb : Nat → Bool) (at_ m : Nat) : bl n kb at_ (m + 1) = bl n kb at_ m ++ [decide (at_ + m < n) && kb (at_ + m)] := by simp [bl, List.range_succ]
theorem crash_alike (s : St) (n : Nat) (kb : Nat → Bool) (at_ : Nat) (fill : Int) : crashSt s s.wait.length (fun k => decide (at_ + k < n) && kb (at_ + k)) fill = crashSt s (min s.wait.length (n - min n at_)) (fun i => kb (min n at_ + i)) fill := by
  unfold crashSt
  congr 1
  have hw := (crashA_same s fill s.size).2.2.2
  refine keepsA_alike _ _ fun k hk => ?_
  simp only [Bool.and_eq_true, decide_eq_true_eq]
  by_cases hn : at_ < n
  · rw [show min n at_ = at_ by omega]
    constructor
    · rintro ⟨a, b, c⟩; exact ⟨by omega, c⟩
    · rintro ⟨a, c⟩; exact ⟨hk, by omega, c⟩
  · constructor
    · rintro ⟨a, b, c⟩; omega
    · rintro ⟨a, c⟩; omega
theorem runs_mono {P : Program} {m : Sem Value} {w : World} {K K' : Value → World → Prop} (h : Runs P m w K) (f : ∀ v w', K v w' → K' v w') : Runs P m w K' := by
  obtain ⟨v, w', e, k⟩ := h
  exact ⟨v, w', e, f _ _ k⟩
def boC (x : Bool) : List Value := [.bool x]
theorem boC_len (x : Bool) : (boC x).length = 1 := rfl
theorem boC_one (x : Bool) : ∀ u ∈ boC x, u.oneCell' = true := fun u hu => by
  simp only [boC, List.mem_cons, List.not_mem_nil, or_false] at hu
  subst hu
  rfl
theorem elem4x : elemOk Try.prog 4 1 = true := by kernel_rfl
variable {E : Nat} {w w' : World} {O O' : Nat → Prop} {b : Nat} {f : Fst} {H : List (List Ent)}
theorem sumW_le (ds : List St) (hw : ∀ s ∈ ds, s.wait.length ≤ 90000) : ∀ j, j ≤ ds.length → sumW ds j ≤ 90000 * j
  | 0, _ => by simp [sumW]
  | j + 1, h => by
    have := sumW_le ds hw j (by omega)
    have := hw _ (List.mem_of_getElem? (getD_get ds emptySt (i := j) (by omega)))
    show sumW ds j + _ ≤ _
    omega
theorem c74 (h : FRD E w O b f H) (o : Fok f) (hO : ∀ x, O x → x < w.heap.size) {q : Option Addr} {n cp : Nat} {kb : Nat → Bool} (hb : Bools w q n kb) (hq : 0 < n → ∀ a, q = some a → ¬ O a.block ∧ a.block < w.heap.size) (nm fill : Int) (hf : isByte fill) (hw : ∀ s ∈ f.ds, s.wait.length ≤ 90000) :
    Rets Try.prog 74 #[ptA b 0, .agg #[.slice q n cp, .int .i64 nm, .int .u8 fill]] w fun v w' => v = .tuple #[] ∧ (∃ H', FRD E w' (fun x => O x ∨ w.heap.size ≤ x) b (crashF f n kb nm fill) H') ∧ Kp O w w' := by
  refine ent [_, _] Try.func74 ((vcTry74 _ _ _ _ _ _ w _).mpr ?_)
  unfold VCTry74
  have lb := h.lt
  have sz := h.szE
  have hst := h.hst
  obtain ⟨Ds, Of, h1, h2, h3, h4, h5⟩ := h
  have hlen := h2.len
  have hdl := o.dsl
  have ka : Kp none_ w (w.alloc (.cells #[.slice q n cp, .int .i64 nm, .int .u8 fill] 53)) := (Kp.refl none_ _).alloc1 _
  have za : (w.alloc (.cells #[.slice q n cp, .int .i64 nm, .int .u8 fill] 53)).heap.size = w.heap.size + 1 := alloc_size _ _
  generalize w.alloc (.cells #[.slice q n cp, .int .i64 nm, .int .u8 fill] 53) = wa at *
  have OfE : ∀ x, Of x → E ≤ x := fun x hx => h4 x (h3 x hx)
  refine ⟨fun i at_ w' => ∃ j : Nat, i = j ∧ j ≤ f.ds.length ∧ at_ = sumW f.ds j ∧ FRM E w' Of b Ds H (lastE f.S f.ws) f.cap f.k f.r f.rl ∧ Dks RDsk w' (fun x => (O x ∨ wa.heap.size ≤ x) ∧ ¬ Of x) Ds (crDs f.ds n kb fill j) ∧ Kp O w w' ∧ wa.heap.size ≤ w'.heap.size, fun i _ _ => (f.ds.length - i).toNat, ⟨0, rfl, by omega, rfl, h1.kp ka (fun i hi => hi.elim) (fun x _ hx => ⟨id, hx⟩) OfE, h2.kp pkR ka fun x hl hx => ⟨id, .inl hx.1, hx.2⟩, ka.wide, Nat.le_refl _⟩, ?_⟩
  rintro i at_ w1 ⟨j, rfl, hj, rfl, m1, m2, k1, z1⟩ _
  simp only [ptr_some, ad3, Nat.zero_add, Nat.add_zero]
  obtain ⟨q6, c6, e6, r6, _⟩ := m1.disks
  have hbW : ∀ {W : World}, Kp none_ w1 W → Bools W q n kb := fun kW => (hb.kp k1 fun h0 a e => (hq h0 a e).1).kp kW fun _ _ _ => id
  refine ⟨_, _, _, e6, bif_dec (fun hi => ?_) (fun hi => ?_)⟩
  · have hjl : j < f.ds.length := by omega
    have hjD : j < Ds.length := by omega
    obtain ⟨col, p, cO, put⟩ := m2.at pkR (i := j) (by rw [crDs_len]; exact hjl)
    have eD : Ds.getD j 0 = Ds[j] := by rw [List.getD_eq_getElem?_getD, List.getElem?_eq_getElem hjD]; rfl
    rw [eD] at p put
    rw [crDs_get _ _ _ _ _ _ (Nat.le_refl j)] at p
    have hmem : f.ds.getD j emptySt ∈ f.ds := List.mem_of_getElem? (getD_get f.ds emptySt hjl)
    have hwl := hw _ hmem
    have hsw := sumW_le f.ds hw j hj
    refine ⟨fun m at_ q13 n14 n15 w' => ∃ m' : Nat, m = m' ∧ m' ≤ (f.ds.getD j emptySt).wait.length ∧ at_ = sumW f.ds j + m' ∧ n14 = m' ∧ OwnRow w' (fun x => w1.heap.size ≤ x) 4 1 (.slice q13 n14 n15) m' (flatC boC (bl n kb (sumW f.ds j) m')) ∧ Kp none_ w1 w', fun m _ _ _ _ _ => ((f.ds.getD j emptySt).wait.length - m).toNat, ⟨0, rfl, by omega, by simp, rfl, OwnRow.nil _ _ _ _, Kp.refl _ _⟩, ?_⟩
    rintro m at_ q13 n14 n15 w2 ⟨m', rfl, hm, rfl, rfl, ro, k2⟩ _
    have z2 := k2.size
    refine ⟨_, _, _, k2.cell0 e6, ⟨by omega, hi⟩, (r6.kp0 k2).get hjD fun a ea hc => ⟨_, (cell_add0 _ _).symm.trans (hc 0 _ rfl), ?_⟩⟩
    simp only [ptr_some, ad3, Nat.zero_add, Nat.add_zero]
    obtain ⟨q3, c3, e3, _⟩ := p.wait
    have more : ∀ t : Bool, t = (decide (sumW f.ds j + n14 < n) && kb (sumW f.ds j + n14)) → n14 < (f.ds.getD j emptySt).wait.length → Runs Try.prog (Builtin.append_ #[31, 31] 31 #[.slice q13 n14 n15, .slice (some ⟨w2.heap.size, 0, none⟩) 1 1]) (w2.alloc (.cells #[.bool t] 4)) fun v w3 => ∃ q31 n32 n33, v = .slice q31 n32 n33 ∧ Keeps (w2.alloc (.cells #[.bool t] 4)) w3 [w.heap.size] ∧ n32 = n14 + 1 ∧ OwnRow w3 (fun x => w1.heap.size ≤ x) 4 1 (.slice q31 n32 n33) (n14 + 1) (flatC boC (bl n kb (sumW f.ds j) (n14 + 1))) ∧ Kp none_ w1 w3 := fun t et hlt => by
      refine push_row (l := bl n kb (sumW f.ds j) n14) t (cs := #[.bool t]) boC_len boC_one (by omega) Try.underlying31 elem4x rfl ro (by rw [bl_len]) (by rw [bl_len]; omega) fun q' c' w3 ro' k3 kk => ?_
      rw [bl_len] at ro' ⊢
      have z3 := k3.size
      refine ⟨_, _, _, rfl, kk.keeps fun x hx => ?_, rfl, ?_, k2.then k3 fun x hx hh => by omega⟩
      · rw [List.mem_singleton] at hx
        subst hx
        exact ⟨by rw [alloc_size]; omega, fun hh => by have hh : w1.heap.size ≤ w.heap.size := hh; omega⟩
      · rw [bl_succ, ← et]
        have ro'' : OwnRow w3 (fun i => (fun x => w1.heap.size ≤ x) i ∨ fresh w2 i) 4 1 (.slice q' (n14 + 1) c') (n14 + 1) (flatC boC (bl n kb (sumW f.ds j) n14 ++ [t])) := by
          have := ro'
          rw [List.length_append, bl_len] at this
          exact this
        exact ro''.mono fun x hx hl => by
          rcases hx with hx | hx
          · exact hx
          · have hx : w2.heap.size ≤ x := hx; show w1.heap.size ≤ x; omega
    refine ⟨_, _, _, k2.cell0 e3, bif_dec (fun hm2 => bif_dec (fun hat => ?_) (fun hat => ?_)) (fun hm2 => ?_)⟩
    · have hat : (sumW f.ds j : Int) + (n14 : Int) < n := hat
      obtain ⟨a, ea, ha⟩ := hbW k2 (sumW f.ds j + n14) (by omega)
      refine ⟨⟨by omega, hat⟩, ?_⟩
      rw [ea, ptr_some]
      refine ⟨kb (sumW f.ds j + n14), ?_, runs_mono (more _ (by rw [decide_eq_true (by omega), Bool.true_and]) (by omega)) fun v w3 hv => ?_⟩
      · rw [Nat.mul_one, show ((sumW f.ds j : Int) + (n14 : Int)).toNat = sumW f.ds j + n14 by omega]
        exact ha
      · obtain ⟨q31, n32, n33, rfl, hk, rfl, ro3, k3⟩ := hv
        exact ⟨_, _, _, rfl, hk, wr64 (by omega) (wr64 (by omega) ⟨rfl, ⟨n14 + 1, by omega, by omega, by omega, rfl, ro3, k3⟩, by first | omega | (dsimp only; omega)⟩)⟩
    · have hat : ¬ (sumW f.ds j : Int) + (n14 : Int) < n := hat
      refine runs_mono (more false (by rw [decide_eq_false (by omega), Bool.false_and]) (by omega)) fun v w3 hv => ?_
      obtain ⟨q31, n32, n33, rfl, hk, rfl, ro3, k3⟩ := hv
      exact ⟨_, _, _, rfl, hk, wr64 (by omega) (wr64 (by omega) ⟨rfl, ⟨n14 + 1, by omega, by omega, by omega, rfl, ro3, k3⟩, by first | omega | (dsimp only; omega)⟩)⟩
    · have em : n14 = (f.ds.getD j emptySt).wait.length := by omega
      have k3 : Kp none_ w1 w2.drew := k2.drew
      have rw_ := rwIn_of (Q := fun x => w1.heap.size ≤ x) boC_len (by omega) (l := bl n kb (sumW f.ds j) n14) (by rw [bl_len]; exact ro) fun i hi => hi
      have hbb : Bools w2.drew q13 n14 (fun k => decide (sumW f.ds j + k < n) && kb (sumW f.ds j + k)) := fun k hk => by
        obtain ⟨a, ea, hc⟩ := rw_.1 k (by rw [bl_len]; exact hk)
        refine ⟨a, ea, ?_⟩
        have := hc 0 _ rfl
        rw [Nat.mul_one, cell_add0] at this
        have e : (bl n kb (sumW f.ds j) n14)[k]'(by rw [bl_len]; exact hk) = (decide (sumW f.ds j + k < n) && kb (sumW f.ds j + k)) := by simp [bl]
        rw [e] at this
        exact this
      refine ⟨_, _, _, k3.cell0 e6, ⟨by omega, hi⟩, (r6.kp0 k3).get hjD fun a ea hc => ⟨_, (cell_add0 _ _).symm.trans (hc 0 _ rfl), fun _ => ?_⟩⟩
      refine (c60 (p.kp0 k3) hbb (fun h0 a e => ?_) fill hf (by omega)).mono ?_
      · have := rw_.2 (by rw [bl_len]; exact h0) a e
        by_cases ec : col a.block = 0
        · exact ec
        · have := p.lt _ ec; omega
      · rintro v w3 ⟨rfl, k4, p4⟩
        have kk := (k3.wide (S := ownC col)).trans k4
        have z3 := kk.size
        have nS : ¬ ownC col w.heap.size := fun hh => by
          rcases (cO _ hh).1 with hx | hx
          · have := hO _ hx; omega
          · omega
        rw [em, crash_alike] at p4
        have P4 := put kk (Grow.refl p.lt kk.size) p4
        refine ⟨rfl, k4.keeps fun x hx => ⟨by rw [List.mem_singleton] at hx; show x < w2.heap.size; omega, by rw [List.mem_singleton] at hx; rw [hx]; exact nS⟩, wr64 (by omega) ⟨rfl, ⟨j + 1, by omega, by omega, ?_, ?_, ?_, ?_, by omega⟩, by first | omega | (dsimp only; omega)⟩⟩
        · show (sumW f.ds j : Int) + (n14 : Int) = ((sumW f.ds j + (f.ds.getD j emptySt).wait.length : Nat) : Int)
          omega
        · exact m1.kp kk (fun x hx => by
            rcases (cO x hx).1 with hy | hy
            · exact h4 x hy
            · omega) (fun x hl hx => ⟨fun hh => (cO x hh).2 hx, hx⟩) OfE
        · exact P4.kp pkR (Kp.refl none_ _) fun x hl hx => ⟨id, by
            rcases hx with hx | hx
            · exact hx
            · exact ⟨.inr (by omega), fun hh => by have := hO x (h3 x hh); omega⟩⟩
        · exact k1.then kk fun x hx hh => by
            rcases (cO x hh).1 with hy | hy
            · exact hy
            · omega
  · have ej : j = f.ds.length := by omega
    subst ej
    have k0 : Kp none_ w1 w1.drew := Kp.drew1
    have F1 : FRD E w1.drew (fun x => O x ∨ (wa.heap.size ≤ x ∧ x < w1.heap.size)) b { f with ds := crDs f.ds n kb fill f.ds.length } H := ⟨Ds, Of, m1.kp k0 (fun i hi => hi.elim) (fun x _ hx => ⟨id, hx⟩) OfE, m2.kp pkR k0 fun x hl hx => ⟨id, hx.1.imp id fun hh => ⟨hh, hl⟩, hx.2⟩, fun x hx => .inl (h3 x hx), fun x hx => by
      rcases hx with hx | hx
      · exact h4 x hx
      · omega, hst⟩
    obtain ⟨Od, d, dO, go⟩ := F1.dirOp
    have d : RD w1.drew Od b 1 H (lastE f.S f.ws) := d
    intro _
    refine (c81 d nm).mono ?_
    rintro v w2 ⟨rfl, d2, k2, n2⟩
    have z2 : w1.heap.size ≤ w2.heap.size := k2.size
    have F2 := go (d2.mono fun i _ hi => .inl hi) k2 n2 (hst.crash nm)
    have lb2 := F2.lt
    obtain ⟨Ds', Of', ⟨dv, own, Od', rq, rc, x1, x2, x3, x4, x5, x6, x7, x8, x9⟩, y2, y3, y4, y5⟩ := F2
    have kk : Kp (one_ b) w2 (w2.setCell ⟨b, 6, none⟩ (.slice none 0 0)) := kp_set _ _ _ _
    have nb : Nb b 3 4 w2 (w2.setCell ⟨b, 6, none⟩ (.slice none 0 0)) := Nb.set w2 (b := b) (o := 3) (i := 3) (by omega) _
    have cc := x3.set 3 (.slice none 0 0)
    have nDo : ¬ Od w.heap.size := fun hh => by
      rcases dO _ hh with hy | hy
      · have := hO _ hy; omega
      · omega
    refine ⟨rfl, k2.keeps fun x hx => ⟨by rw [List.mem_singleton] at hx; show x < w1.heap.size; omega, by rw [List.mem_singleton] at hx; rw [hx]; exact nDo⟩, (x3.slot 3 (by simp)).1, (x3.slot 3 (by simp)).2, .inl fun e => by have e : b = w.heap.size := e; omega, fun _ => ⟨_, rfl, rfl, ⟨[], ?_⟩, ?_⟩⟩
    · have G : FRD E (w2.setCell ⟨b, 6, none⟩ (.slice none 0 0)) (fun x => (O x ∨ (wa.heap.size ≤ x ∧ x < w1.heap.size)) ∨ w1.drew.heap.size ≤ x) b (crashF f n kb nm fill) [] := ⟨Ds', Of', ⟨dv, own, Od', none, 0, x1.nb kk nb (.inl (by simp)), x2.nb kk nb (.inl (by omega)), cc, x4.kp kk (fun g n cap _ hg e => by have e : g = b := e; rw [e] at hg; exact (x7 b hg).2 x2.lt.2), (fun i hi => absurd hi (by show ¬ i < 0; omega)), (fun h0 => absurd h0 (by show ¬ 0 < 0; omega)), x7, x8, x9⟩, y2.kp pkR kk fun x hl hx => ⟨fun e => hx.2 (by have e : x = b := e; rw [e]; exact x8 _ x2.lt.2), hx⟩, y3, y4, y5⟩
      refine G.kp (Kp.refl none_ _) (fun i hi => hi.elim) (fun x hl hx => ⟨id, ?_⟩) fun x hx => ?_
      · rcases hx with (hx | hx) | hx
        · exact .inl hx
        · exact .inr (by omega)
        · exact .inr (by have hx : w1.heap.size ≤ x := hx; omega)
      · rcases hx with hx | hx
        · exact h4 x hx
        · omega
    · refine (k1.drew.then k2 fun x hx hh => ?_).trans (kk.mono fun x _ hx => by have hx : x = b := hx; rw [hx]; exact lb.2)
      rcases dO x hh with hy | hy
      · exact hy
      · omega
end Go.Proofs.Ytlgkcbdpaffigaa

namespace Go.Proofs.Ytlgkcbdpaffigaa
open Go Go.SX Go.Proofs
set_option maxRecDepth 100000
set_option linter.unusedVariables false
set_option linter.unusedSimpArgs false
variable {E : Nat} {w w' : World} {O O' : Nat → Prop} {b : Nat} {f : Fst} {H : List (List Ent)}
def newFst (cap : Int) : Fst := ⟨[], [], [], maxI 0 (minI 65536 cap), 0, 0, []⟩
theorem cap_range (cap : Int) : 0 ≤ maxI 0 (minI 65536 cap) ∧ maxI 0 (minI 65536 cap) ≤ 65536 := by
  unfold maxI minI
  split <;> split <;> omega
theorem newFst_ok (cap : Int) : Fok (newFst cap) := ⟨wfE_nil, trivial, Nat.zero_le _, Nat.zero_le _, ⟨Int.le_refl _, by show (0 : Int) ≤ 100000; omega⟩, ⟨Int.le_refl _, by show (0 : Int) ≤ 100000; omega⟩, Nat.zero_le _, cap_range cap⟩
theorem c24F (cap : Int) (w : World) : Rets Try.prog 24 #[.int .i64 cap] w fun v w' => v = ptA w.heap.size 0 ∧ FSD w' (fun i => w.heap.size ≤ i) w.heap.size (newFst cap) ∧ Kp none_ w w' := by
  refine (c24 cap w).mono ?_
  rintro v w' ⟨rfl, h, k⟩
  exact ⟨rfl, ⟨[], _, h, Dks.nil _ _ _, fun x hx => hx⟩, k⟩
theorem alloc_k3 (w : World) (cs : Array Value) (e : TypeId) : Kp none_ w (w.alloc (.cells cs e)) ∧ (w.alloc (.cells cs e)).heap.size = w.heap.size + 1 ∧ Big (w.alloc (.cells cs e)) w.heap.size e cs.toList := ⟨(Kp.refl none_ _).alloc1 _, alloc_size _ _, Big.new _ _ _⟩
theorem frm_new (hE : E ≤ w.heap.size) (cv cap : Int) (hc : cv = maxI 0 (minI 65536 cap)) : FRD E (w.alloc (.cells #[.slice none 0 0, .slice none 0 0, .slice none 0 0, .int .i64 cv, .int .i64 0, .int .i64 0, .slice none 0 0] 125)) (fun i => w.heap.size ≤ i) w.heap.size (newFst cap) [] ∧ Kp none_ w (w.alloc (.cells #[.slice none 0 0, .slice none 0 0, .slice none 0 0, .int .i64 cv, .int .i64 0, .int .i64 0, .slice none 0 0] 125)) := by
  subst hc
  obtain ⟨ka, za, Ba⟩ := alloc_k3 w #[.slice none 0 0, .slice none 0 0, .slice none 0 0, .int .i64 (maxI 0 (minI 65536 cap)), .int .i64 0, .int .i64 0, .slice none 0 0] 125
  generalize w.alloc (.cells #[.slice none 0 0, .slice none 0 0, .slice none 0 0, .int .i64 (maxI 0 (minI 65536 cap)), .int .i64 0, .int .i64 0, .slice none 0 0] 125) = W at *
  have sub : ∀ (o : Nat) (vs : List Value), (∀ j v, vs[j]? = some v → ([.slice none 0 0, .slice none 0 0, .slice none 0 0, .int .i64 (maxI 0 (minI 65536 cap)), .int .i64 0, .int .i64 0, .slice none 0 0] : List Value)[o + j]? = some v) → Cs W w.heap.size o vs := fun o vs h j v hv => ⟨by rw [Ba.cell]; exact h j v hv, Ba.frz _⟩
  refine ⟨⟨[], fun i => w.heap.size ≤ i, ⟨.slice none 0 0, none_, fun i => i = w.heap.size, none, 0, sub 0 _ ?_, RD.zero (sub 1 _ ?_) (fun i => i = w.heap.size) rfl, sub 3 _ ?_, OwnRow.nil _ _ _ _, (fun i hi => absurd hi (by show ¬ i < 0; omega)), (fun h0 => absurd h0 (by show ¬ 0 < 0; omega)), (fun i hi => hi.elim), (fun i hi => by omega), fun i hi => by omega⟩, Dks.nil _ _ _, fun x hx => hx, fun x hx => by omega, wfE_nil, trivial, rfl⟩, ka⟩
  all_goals
    intro j v hv
    match j, hv with
    | 0, hv => exact hv
    | 1, hv => first | exact hv | (simp at hv)
    | 2, hv => first | exact hv | (simp at hv)
    | 3, hv => first | exact hv | (simp at hv)
    | j + 4, hv => simp at hv
theorem c25 (cap : Int) (w : World) (hE : E ≤ w.heap.size) : Rets Try.prog 25 #[.int .i64 cap] w fun v w' => v = ptA w.heap.size 0 ∧ FRD E w' (fun i => w.heap.size ≤ i) w.heap.size (newFst cap) [] ∧ Kp none_ w w' := by
  refine ent [_] Try.func25 ((vcTry25 _ w _).mpr ?_)
  unfold VCTry25
  refine bif_dec (fun h _ => ?_) (fun h => bif_dec (fun h2 _ => ?_) (fun h2 _ => ?_))
  · exact ⟨_, rfl, rfl, frm_new hE 0 cap (by unfold maxI minI; split <;> split <;> omega)⟩
  · exact ⟨_, rfl, rfl, frm_new hE 65536 cap (by unfold maxI minI; split <;> split <;> omega)⟩
  · exact ⟨_, rfl, rfl, frm_new hE cap cap (by unfold maxI minI; split <;> split <;> omega)⟩
end Go.Proofs.Ytlgkcbdpaffigaa

namespace Go.Proofs.Ytlgkcbdpaffigaa
open Go Go.SX Go.Proofs
set_option maxRecDepth 100000
set_option linter.unusedVariables false
set_option linter.unusedSimpArgs false
/-- A call, as it stands in memory. -/
structure Opz where
  k : Int
  id : Int
  at_ : Int
  a : List UInt8
  t : List UInt8
  qb : Option Addr
  nb : Nat
  cb : Nat
  qk : Option Addr
  nk : Nat
  ck : Nat
  nm : Int
  fill : Int
  qn : Option Addr
  nn : Nat
  cn : Nat
def opzC (x : Opz) : List Value := [.int .i64 x.k, .int .i64 x.id, .int .i64 x.at_, .string (ba x.a), .string (ba x.t), .slice x.qb x.nb x.cb, .slice x.qk x.nk x.ck, .int .i64 x.nm, .int .u8 x.fill, .slice x.qn x.nn x.cn]
structure Opz.Small (x : Opz) : Prop where
  nb : x.nb ≤ 3000
  at_ : x.at_ ≤ 20000 ∨ 2097152 < x.at_
  nn : x.nn ≤ 50
  nk : x.nk ≤ 500
theorem c22 {w : World} {q : Option Addr} {c : Nat} {l : List Opz} (h : RowsAt w 10 opzC q l) : Rets Try.prog 22 #[.slice q l.length c] w fun v w' => w' = w ∧ ∃ t, v = .bool t ∧ (t = false → l.length ≤ 60 ∧ ∀ x ∈ l, x.Small) := by
  refine ent [_] Try.func22 ((vcTry22 _ _ _ w _).mpr ?_)
  unfold VCTry22
  have yes : ∃ v, Ending.returned (.bool true) = Ending.returned v ∧ w = w ∧ ∃ t, v = .bool t ∧ (t = false → l.length ≤ 60 ∧ ∀ x ∈ l, x.Small) := ⟨_, rfl, rfl, _, rfl, fun e => by cases e⟩
  refine ⟨fun i w' => ∃ j : Nat, i = j ∧ j ≤ 100 ∧ w' = w ∧ ∀ k (hk : k < l.length), k < j → l[k].Small, fun i _ => (l.length - i).toNat, ⟨0, rfl, by omega, rfl, fun k hk h => by omega⟩, ?_⟩
  rintro i w1 ⟨j, rfl, h1, rfl, hs⟩
  refine bif_dec (fun hi => bif_dec (fun hj => ?_) (fun hj => ?_)) (fun hi => ?_)
  · have hl : j < l.length := by omega
    have get : ∀ {K : Addr → Prop}, (∀ a, (∀ m u, (opzC l[j])[m]? = some u → w1.cell? ((a.add ((j : Int).toNat * 10)).add m) = some u) → K a) → ((0 : Int) ≤ j ∧ (j : Int) < l.length) ∧ SX.Ptr q K := fun hK => ⟨⟨by omega, hi⟩, h.get hl fun a _ hc => hK a hc⟩
    have next : l[j].Small → ∀ {P : Int → Prop}, P (j + 1 : Int) → Wr .i64 ((j : Int) + 1) P := fun _ {P} hP => wr64 (by omega) hP
    have step : l[j].Small → ∃ j' : Nat, ((j : Int) + 1) = j' ∧ j' ≤ 100 ∧ w1 = w1 ∧ ∀ k (hk : k < l.length), k < j' → l[k].Small := fun hsm => ⟨j + 1, by omega, by omega, rfl, fun k hk hkj => by
      by_cases e : k = j
      · subst e; exact hsm
      · exact hs k hk (by omega)⟩
    refine get fun a hc => ⟨_, _, _, hc 5 _ rfl, bif_dec (fun _ => yes) (fun b1 => get fun a hc => ⟨_, hc 2 _ rfl, ?_⟩)⟩
    have tail : (l[j].at_ ≤ 20000 ∨ 2097152 < l[j].at_) → ∀ {P : Int → Prop}, (l[j].Small → P (j + 1 : Int)) → ((0 : Int) ≤ j ∧ (j : Int) < l.length) ∧ SX.Ptr q fun a12 => ∃ s13 : ByteArray, w1.cell? ((a12.add ((j : Int).toNat * 10)).add 3) = some (.string s13) ∧ bif decide ((↑s13.size : Int) > 300) then (∃ v, Ending.returned (.bool true) = Ending.returned v ∧ w1 = w1 ∧ ∃ t, v = .bool t ∧ (t = false → l.length ≤ 60 ∧ ∀ x ∈ l, x.Small)) else ((0 : Int) ≤ j ∧ (j : Int) < l.length) ∧ SX.Ptr q fun a14 => ∃ s15 : ByteArray, w1.cell? ((a14.add ((j : Int).toNat * 10)).add 4) = some (.string s15) ∧ bif decide ((↑s15.size : Int) > 300) then (∃ v, Ending.returned (.bool true) = Ending.returned v ∧ w1 = w1 ∧ ∃ t, v = .bool t ∧ (t = false → l.length ≤ 60 ∧ ∀ x ∈ l, x.Small)) else ((0 : Int) ≤ j ∧ (j : Int) < l.length) ∧ SX.Ptr q fun a16 => ∃ (q17 : Option Addr) (n18 n19 : Nat), w1.cell? ((a16.add ((j : Int).toNat * 10)).add 9) = some (.slice q17 n18 n19) ∧ bif decide ((n18 : Int) > 50) then (∃ v, Ending.returned (.bool true) = Ending.returned v ∧ w1 = w1 ∧ ∃ t, v = .bool t ∧ (t = false → l.length ≤ 60 ∧ ∀ x ∈ l, x.Small)) else ((0 : Int) ≤ j ∧ (j : Int) < l.length) ∧ SX.Ptr q fun a20 => ∃ (q21 : Option Addr) (n22 n23 : Nat), w1.cell? (((a20.add ((j : Int).toNat * 10)).add 6).add 0) = some (.slice q21 n22 n23) ∧ bif decide ((n22 : Int) > 500) then (∃ v, Ending.returned (.bool true) = Ending.returned v ∧ w1 = w1 ∧ ∃ t, v = .bool t ∧ (t = false → l.length ≤ 60 ∧ ∀ x ∈ l, x.Small)) else Wr .i64 ((j : Int) + 1) P := fun b2 {P} hP =>
      get fun a hc => ⟨_, hc 3 _ rfl, bif_dec (fun _ => yes) (fun _ => get fun a hc => ⟨_, hc 4 _ rfl, bif_dec (fun _ => yes) (fun _ => get fun a hc => ⟨_, _, _, hc 9 _ rfl, bif_dec (fun _ => yes) (fun b3 => get fun a hc => ⟨_, _, _, by rw [cell_add0]; exact hc 6 _ rfl, bif_dec (fun _ => yes) (fun b4 => wr64 (by omega) (hP ⟨by omega, b2, by omega, by omega⟩))⟩)⟩)⟩)⟩
    refine bif_dec (fun b2 => get fun a hc => ⟨_, hc 2 _ rfl, bif_dec (fun _ => yes) (fun b3 => tail (.inr (by omega)) fun hsm => ⟨step hsm, by first | omega | (dsimp only; omega)⟩)⟩) (fun b2 => tail (.inl (by omega)) fun hsm => ⟨step hsm, by first | omega | (dsimp only; omega)⟩)
  · exact ⟨_, rfl, rfl, _, rfl, fun e => by have := of_decide_eq_false e; omega⟩
  · exact ⟨_, rfl, rfl, _, rfl, fun e => ⟨by have := of_decide_eq_false e; omega, fun x hx => by
      obtain ⟨k, hk, rfl⟩ := List.getElem_of_mem hx
      exact hs k hk (by omega)⟩⟩
end Go.Proofs.Ytlgkcbdpaffigaa

namespace Go.Proofs.Ytlgkcbdpaffigaa
open Go Go.SX Go.Proofs
set_option maxRecDepth 100000
set_option linter.unusedVariables false
set_option linter.unusedSimpArgs false
def Dbl (E : Nat) (w : World) (Q : Nat → Prop) (bp bm : Nat) (f : Fst) : Prop :=
  ∃ (Op Om : Nat → Prop) (H : List (List Ent)), FSD w Op bp f ∧ FRD E w Om bm f H ∧ (∀ i, Op i → ¬ Om i) ∧ (∀ i, Op i ∨ Om i → Q i ∧ i < w.heap.size) ∧ ∀ i, Op i → E ≤ i
def opF (f : Fst) (x : Opz) (bf : Int → Int) (kb : Nat → Bool) (nl : List Int) : Fst :=
  if x.k = 0 then mkF f x.a else if x.k = 1 then (wrF f x.id x.at_ x.nb bf).2 else if x.k = 2 then (syF f x.id).2 else if x.k = 3 then (sdF f).2 else if x.k = 4 then (rnF f x.a x.t).2 else if x.k = 5 then (rmF f x.a).2 else if x.k = 6 then crashF f x.nk kb x.nm x.fill else { f with rl := nl }
/-- What a call has in memory. -/
structure OpzIn (E : Nat) (w : World) (x : Opz) (bf : Int → Int) (kb : Nat → Bool) (nl : List Int) : Prop where
  b : Ints w .u8 x.qb x.nb bf
  by_ : ∀ i : Int, 0 ≤ i → i < x.nb → isByte (bf i)
  cb : x.nb ≤ x.cb
  qb : 0 < x.nb → ∀ a, x.qb = some a → a.block < E
  k : Bools w x.qk x.nk kb
  ck : x.nk ≤ x.ck
  qk : 0 < x.nk → ∀ a, x.qk = some a → a.block < E
  n : RowsAt w 1 intC x.qn nl
  nn : x.nn = nl.length
  qn : 0 < nl.length → ∀ a, x.qn = some a → a.block < E
  qn0 : nl = [] ∨ ∃ b off, x.qn = some ⟨b, off, none⟩
  nl : nl.length ≤ 100000
  fill : isByte x.fill
theorem FRD.setRl {E : Nat} {w : World} {O : Nat → Prop} {b : Nat} {f : Fst} {H : List (List Ent)} (h : FRD E w O b f H) {q : Option Addr} {c : Nat} {nl : List Int} (hn : RowsAt w 1 intC q nl) (hq : 0 < nl.length → ∀ a, q = some a → a.block < E) : (∃ v, w.cell? ⟨b, 6, none⟩ = some v) ∧ w.frozen? ⟨b, 6, none⟩ = false ∧ FRD E (w.setCell ⟨b, 6, none⟩ (.slice q nl.length c)) O b { f with rl := nl } H ∧ Kp O w (w.setCell ⟨b, 6, none⟩ (.slice q nl.length c)) := by
  have lb := h.lt
  have lE := h.ge _ lb.2
  obtain ⟨Ds', Of', ⟨dv, own, Od', rq, rc, x1, x2, x3, x4, x5, x6, x7, x8, x9⟩, y2, y3, y4, y5⟩ := h
  have kk : Kp (one_ b) w (w.setCell ⟨b, 6, none⟩ (.slice q nl.length c)) := kp_set _ _ _ _
  have nb : Nb b 3 4 w (w.setCell ⟨b, 6, none⟩ (.slice q nl.length c)) := Nb.set w (b := b) (o := 3) (i := 3) (by omega) _
  have cc := x3.set 3 (.slice q nl.length c)
  exact ⟨(x3.slot 3 (by simp)).1, (x3.slot 3 (by simp)).2, ⟨Ds', Of', ⟨dv, own, Od', q, c, x1.nb kk nb (.inl (by simp)), x2.nb kk nb (.inl (by omega)), cc, x4.kp kk (fun g n cap _ hg e => by have e : g = b := e; rw [e] at hg; exact (x7 b hg).2 x2.lt.2), hn.kp kk (fun h0 a e hh => by have := hq h0 a e; have hh : a.block = b := hh; omega), hq, x7, x8, x9⟩, y2.kp pkR kk fun x hl hx => ⟨fun e => hx.2 (by have e : x = b := e; rw [e]; exact x8 _ x2.lt.2), hx⟩, y3, y4, y5⟩, kk.mono fun x _ hx => by have hx : x = b := hx; rw [hx]; exact lb.2⟩
theorem c26 {E : Nat} {w : World} {Q : Nat → Prop} {bp bm : Nat} {f : Fst} (h : Dbl E w Q bp bm f) (o : Fok f) (hk : f.k < 100000) (hr : f.r < 100000) (hw : ∀ s ∈ f.ds, s.wait.length ≤ 90000) (x : Opz) {bf : Int → Int} {kb : Nat → Bool} {nl : List Int} (g : OpzIn E w x bf kb nl) : Rets Try.prog 26 #[ptA bp 0, ptA bm 0, .agg (opzC x).toArray] w fun v w' =>
    v = .bool true ∧ Dbl E w' (fun i => Q i ∨ w.heap.size ≤ i) bp bm (opF f x bf kb nl) ∧ Kp (fun i => Q i ∧ i < w.heap.size) w w' := by
  obtain ⟨xk, xid, xat, xa, xt, qb, nb, cb, qk, nk, ck, nm, fill, qn, nn, cn⟩ := x
  obtain ⟨gb, gby, gcb, gqb, gk, gck, gqk, gn, gnn, gqn, gqn0, gnl, gfill⟩ := g
  dsimp only at *
  subst gnn
  refine ent [_, _, _] Try.func26 ((vcTry26 _ _ _ _ _ _ _ _ _ _ _ _ _ _ _ _ _ _ w _).mpr ?_)
  unfold VCTry26
  obtain ⟨ka, za, Ba⟩ := alloc_k3 w #[.int .i64 xk, .int .i64 xid, .int .i64 xat, .string (ba xa), .string (ba xt), .slice qb nb cb, .slice qk nk ck, .int .i64 nm, .int .u8 fill, .slice qn nl.length cn] 64
  generalize w.alloc (.cells #[.int .i64 xk, .int .i64 xid, .int .i64 xat, .string (ba xa), .string (ba xt), .slice qb nb cb, .slice qk nk ck, .int .i64 nm, .int .u8 fill, .slice qn nl.length cn] 64) = W at *
  obtain ⟨Op, Om, H, hp, hm, dis, bnd, hE⟩ := h
  have hmE := hm.ge
  have szE := hm.szE
  have pl : ∀ i, Op i → i < w.heap.size := fun i hi => (bnd i (.inl hi)).2
  have ml : ∀ i, Om i → i < w.heap.size := fun i hi => (bnd i (.inr hi)).2
  have kd : Kp none_ w W.drew := ka.drew
  have lt1 : ∀ {w1 : World}, Kp Op W w1 → ∀ i, Om i → i < w1.heap.size := fun k i hi => by have := ml i hi; have := k.size; omega
  have keepD : ∀ {w1 : World}, Kp Op W w1 → Keeps W w1 [w.heap.size] := fun k => k.keeps fun i hi => by
    rw [List.mem_singleton] at hi
    subst hi
    exact ⟨by omega, fun hh => by have := pl _ hh; omega⟩
  have keepM : ∀ {w1 w2 : World}, Kp Op W w1 → Kp Om w1 w2 → Keeps w1 w2 [w.heap.size] := fun k0 k => k.keeps fun i hi => by
    have := k0.size
    rw [List.mem_singleton] at hi
    subst hi
    exact ⟨by omega, fun hh => by have := ml _ hh; omega⟩
  have cell : ∀ {w1 : World} (j : Nat) (v : Value), Kp Op W w1 → ([.int .i64 xk, .int .i64 xid, .int .i64 xat, .string (ba xa), .string (ba xt), .slice qb nb cb, .slice qk nk ck, .int .i64 nm, .int .u8 fill, .slice qn nl.length cn] : List Value)[j]? = some v → w1.cell? ⟨w.heap.size, j, none⟩ = some v := fun j v k hv => k.cell (by rw [Ba.cell]; exact hv) (fun hh => by have hh : Op w.heap.size := hh; have := pl _ hh; omega)
  have Rk : ∀ {w1 : World}, Kp Op W w1 → FRD E w1 Om bm f H := fun k => (hm.kp0 ka).kp k (fun i hi => hE i hi) (fun i _ hi => ⟨fun ho => dis i ho hi, hi⟩) hmE
  have fin : ∀ {w1 w2 : World} {f' : Fst} {H' : List (List Ent)}, FSD w1 (fun i => Op i ∨ W.heap.size ≤ i) bp f' → Kp Op W w1 → FRD E w2 (fun i => Om i ∨ w1.heap.size ≤ i) bm f' H' → Kp Om w1 w2 → Dbl E w2 (fun i => Q i ∨ w.heap.size ≤ i) bp bm f' ∧ Kp (fun i => Q i ∧ i < w.heap.size) w w2 := fun {w1 w2 f' H'} d1 k1 r2 k2 => by
    have z1 := k1.size
    have z2 := k2.size
    refine ⟨⟨fun i => (Op i ∨ W.heap.size ≤ i) ∧ i < w1.heap.size, fun i => (Om i ∨ w1.heap.size ≤ i) ∧ i < w2.heap.size, H', d1.kp k2 fun i hil hi => ⟨fun ho => ?_, hi, hil⟩, r2.kp (Kp.refl none_ _) (fun i hi => hi.elim) (fun i hil hi => ⟨id, hi, hil⟩) (fun i hi => ?_), ?_, ?_, fun i hi => ?_⟩, (ka.wide.trans (k1.mono fun i _ hi => bnd i (.inl hi))).trans (k2.mono fun i _ hi => bnd i (.inr hi))⟩
    · rcases hi with hi | hi
      · exact dis i hi ho
      · have := ml i ho; omega
    · rcases hi.1 with hh | hh
      · exact hmE i hh
      · omega
    · rintro i ⟨hi, hil⟩ ⟨ho, _⟩
      rcases hi with hi | hi
      · rcases ho with ho | ho
        · exact dis i hi ho
        · omega
      · rcases ho with ho | ho
        · have := ml i ho; omega
        · omega
    · rintro i (⟨hi, hil⟩ | ⟨hi, hil⟩)
      · rcases hi with hi | hi
        · exact ⟨.inl (bnd i (.inl hi)).1, by omega⟩
        · exact ⟨.inr (by omega), by omega⟩
      · rcases hi with hi | hi
        · exact ⟨.inl (bnd i (.inr hi)).1, by omega⟩
        · exact ⟨.inr (by omega), by omega⟩
    · rcases hi.1 with hh | hh
      · exact hE i hh
      · omega
  have ofd : ∀ {w1 : World}, Kp Op W.drew w1 → Kp Op W w1 := fun k => Kp.of_drew k
  have keepE : ∀ {w1 : World}, Kp Op W w1 → Keeps W.drew w1 [w.heap.size] := fun k => keepD k
  have hpW := hp.kp0 ka
  have hpD := hp.kp0 kd
  have plW : ∀ i, Op i → i < W.heap.size := fun i hi => by have := pl i hi; omega
  have nqb : 0 < nb → ∀ a, qb = some a → ¬ Op a.block ∧ ¬ Om a.block := fun h0 a e => ⟨fun hh => by have := hE _ hh; have := gqb h0 a e; omega, fun hh => by have := hmE _ hh; have := gqb h0 a e; omega⟩
  have nqk : 0 < nk → ∀ a, qk = some a → (¬ Op a.block ∧ ¬ Om a.block) ∧ a.block < w.heap.size := fun h0 a e => ⟨⟨fun hh => by have := hE _ hh; have := gqk h0 a e; omega, fun hh => by have := hmE _ hh; have := gqk h0 a e; omega⟩, by have := gqk h0 a e; omega⟩
  unfold opF
  refine bif_eq (fun hx0 _ => ?_) (fun hx0 => bif_eq (fun hx1 _ => ?_) (fun hx1 => bif_eq (fun hx2 _ => ?_) (fun hx2 => bif_eq (fun hx3 _ => ?_) (fun hx3 => bif_eq (fun hx4 _ => ?_) (fun hx4 => bif_eq (fun hx5 _ => ?_) (fun hx5 => bif_eq (fun hx6 _ => ?_) (fun hx6 _ => ?_)))))))
  · refine (c28F hpW o plW xa).mono ?_
    rintro v w1 ⟨rfl, d1, k1⟩
    refine ⟨_, _, rfl, keepD k1, fun _ => (c68 (Rk k1) o (lt1 k1) xa).mono ?_⟩
    rintro v w2 ⟨rfl, ⟨H', r2⟩, k2⟩
    refine ⟨_, _, rfl, keepM k1 k2, bif_eq (fun _ _ => ⟨_, rfl, by simp, ?_⟩) (fun hh => absurd rfl hh)⟩
    simp only [if_pos hx0]
    exact fin d1 k1 r2 k2
  · refine (c29 hpD o hk hr plW (gb.kp kd fun _ _ _ => id) gby (fun h0 a e => (nqb h0 a e).1) xid xat hw).mono ?_
    rintro v w1 ⟨rfl, d1, kx⟩
    have k1 := ofd kx
    refine ⟨_, rfl, keepE k1, cell 5 _ k1 rfl, cell 2 _ k1 rfl, cell 1 _ k1 rfl, fun _ => (c69 (Rk k1) o hk hr ((gb.kp ka fun _ _ _ => id).kp k1 fun h0 a e => (nqb h0 a e).1) gby gcb (fun h0 a e => (nqb h0 a e).2) xid xat hw).mono ?_⟩
    rintro v w2 ⟨rfl, r2, k2⟩
    refine ⟨_, rfl, keepM k1 k2, fun _ => ⟨_, rfl, by simp, ?_⟩⟩
    simp only [if_neg hx0, if_pos hx1]
    exact fin d1 k1 r2 k2
  · refine (c30 hpD o xid).mono ?_
    rintro v w1 ⟨rfl, d1, kx⟩
    have k1 := ofd kx
    refine ⟨_, rfl, keepE k1, cell 1 _ k1 rfl, fun _ => (c70 (Rk k1) o xid).mono ?_⟩
    rintro v w2 ⟨rfl, r2, k2⟩
    refine ⟨_, rfl, keepM k1 k2, fun _ => ⟨_, rfl, by simp, ?_⟩⟩
    simp only [if_neg hx0, if_neg hx1, if_pos hx2]
    exact fin d1 k1 r2 k2
  · refine (c31 hpW o plW).mono ?_
    rintro v w1 ⟨rfl, d1, k1⟩
    refine ⟨_, rfl, keepD k1, fun _ => (c71 (Rk k1) o).mono ?_⟩
    rintro v w2 ⟨rfl, ⟨H', r2⟩, k2⟩
    refine ⟨_, rfl, keepM k1 k2, fun _ => ⟨_, rfl, by simp, ?_⟩⟩
    simp only [if_neg hx0, if_neg hx1, if_neg hx2, if_pos hx3]
    exact fin d1 k1 r2 k2
  · refine (c52 hpD o plW xa xt).mono ?_
    rintro v w1 ⟨rfl, d1, kx⟩
    have k1 := ofd kx
    refine ⟨_, rfl, keepE k1, cell 4 _ k1 rfl, cell 3 _ k1 rfl, fun _ => (c72 (Rk k1) o (lt1 k1) xa xt).mono ?_⟩
    rintro v w2 ⟨rfl, ⟨H', r2⟩, k2⟩
    refine ⟨_, rfl, keepM k1 k2, fun _ => ⟨_, rfl, by simp, ?_⟩⟩
    simp only [if_neg hx0, if_neg hx1, if_neg hx2, if_neg hx3, if_pos hx4]
    exact fin d1 k1 r2 k2
  · refine (c53 hpD o plW xa).mono ?_
    rintro v w1 ⟨rfl, d1, kx⟩
    have k1 := ofd kx
    refine ⟨_, rfl, keepE k1, cell 3 _ k1 rfl, fun _ => (c73 (Rk k1) o (lt1 k1) xa).mono ?_⟩
    rintro v w2 ⟨rfl, ⟨H', r2⟩, k2⟩
    refine ⟨_, rfl, keepM k1 k2, fun _ => ⟨_, rfl, by simp, ?_⟩⟩
    simp only [if_neg hx0, if_neg hx1, if_neg hx2, if_neg hx3, if_neg hx4, if_pos hx5]
    exact fin d1 k1 r2 k2
  · refine (c32 hpW o plW gck (gk.kp ka fun _ _ _ => id) (fun h0 a e => ⟨(nqk h0 a e).1.1, by have := (nqk h0 a e).2; omega⟩) nm fill gfill hw).mono ?_
    rintro v w1 ⟨rfl, d1, k1⟩
    have z1 := k1.size
    refine ⟨rfl, keepD k1, fun _ => (c74 (Rk k1) o (lt1 k1) ((gk.kp ka fun _ _ _ => id).kp k1 fun h0 a e => (nqk h0 a e).1.1) (fun h0 a e => ⟨(nqk h0 a e).1.2, by have := (nqk h0 a e).2; omega⟩) nm fill gfill hw).mono ?_⟩
    rintro v w2 ⟨rfl, ⟨H', r2⟩, k2⟩
    refine ⟨rfl, keepM k1 k2, fun _ => ⟨_, rfl, rfl, ?_⟩⟩
    simp only [if_neg hx0, if_neg hx1, if_neg hx2, if_neg hx3, if_neg hx4, if_neg hx5, if_pos hx6]
    exact fin d1 k1 r2 k2
  · refine (c27F hpW plW (gn.kp0 ka) (by omega) gqn0).mono ?_
    rintro v w1 ⟨rfl, d1, k1⟩
    have z1 := k1.size
    have rn : RowsAt w1 1 intC qn nl := (gn.kp0 ka).kp k1 fun h0 a e hh => by have := gqn h0 a e; have := hE _ hh; omega
    obtain ⟨s1, s2, r2, k2⟩ := (Rk k1).setRl (c := cn) rn gqn
    have lbm := hm.lt
    simp only [ptr_some, ad3, Nat.zero_add, Nat.add_zero]
    refine ⟨trivial, keepD k1, s1, s2, .inl fun e => by have e : bm = w.heap.size := e; omega, fun _ => ⟨_, rfl, rfl, ?_⟩⟩
    simp only [if_neg hx0, if_neg hx1, if_neg hx2, if_neg hx3, if_neg hx4, if_neg hx5, if_neg hx6]
    exact fin d1 k1 (r2.up (by omega)) k2
end Go.Proofs.Ytlgkcbdpaffigaa

namespace Go.Proofs.Ytlgkcbdpaffigaa
open Go Go.SX Go.Proofs
set_option maxRecDepth 100000
set_option linter.unusedVariables false
set_option linter.unusedSimpArgs false
theorem sync_size (s : St) : (syncSt s).size = s.size := rfl
theorem sync_wait (s : St) : (syncSt s).wait = [] := rfl
theorem crash_size (s : St) (n : Nat) (kb : Nat → Bool) (fill : Int) : (crashSt s n kb fill).size = s.size := by
  unfold crashSt
  rw [sync_size, (keepsA_same _ n kb _).1, (crashA_same s fill _).1]
theorem crash_wait (s : St) (n : Nat) (kb : Nat → Bool) (fill : Int) : (crashSt s n kb fill).wait = [] := rfl
structure Fb (f : Fst) (n : Nat) : Prop where
  ok : Fok f
  k : f.k ≤ n
  r : f.r ≤ 2 * n
  ds : f.ds.length ≤ n
  ws : f.ws.length ≤ n
  st : ∀ s ∈ f.ds, s.size ≤ 46 ∧ s.wait.length ≤ 8 * n
theorem Fb.cnt {f : Fst} {n : Nat} (h : Fb f n) (hn : n ≤ 90) : Fb (cnt f) (n + 1) := by
  have h1 := h.k
  have h2 := h.r
  refine ⟨cnt_ok h.ok (by omega) (by omega), by show f.k + 1 ≤ _; omega, ?_, by have := h.ds; show f.ds.length ≤ _; omega, by have := h.ws; show f.ws.length ≤ _; omega, fun s hs => ⟨(h.st s hs).1, by have := (h.st s hs).2; omega⟩⟩
  show refN f.rl f.k f.r ≤ _
  unfold refN
  split <;> omega
theorem mem_set {α : Type} {l : List α} {i : Nat} {x y : α} (h : y ∈ l.set i x) : y ∈ l ∨ y = x := List.mem_or_eq_of_mem_set h
/-- One disk of all is another. -/
theorem Fb.set {f : Fst} {n : Nat} (h : Fb f n) (i : Nat) {s : St} (hs : s.size ≤ 46 ∧ s.wait.length ≤ 8 * n) : Fb { f with ds := f.ds.set i s } n :=
  ⟨⟨h.ok.wf, h.ok.ok, h.ok.wsl, by have := h.ok.dsl; show (f.ds.set i s).length ≤ _; rw [List.length_set]; exact this, h.ok.k, h.ok.r, h.ok.rll, h.ok.cap⟩, h.k, h.r, by have := h.ds; show (f.ds.set i s).length ≤ _; rw [List.length_set]; exact this, h.ws, fun t ht => by
    rcases mem_set ht with ht | rfl
    · exact h.st t ht
    · exact hs⟩
theorem Fb.get {f : Fst} {n : Nat} (h : Fb f n) (i : Nat) : (f.ds.getD i emptySt).size ≤ 46 ∧ (f.ds.getD i emptySt).wait.length ≤ 8 * n := by
  by_cases hi : i < f.ds.length
  · exact h.st _ (List.mem_of_getElem? (getD_get f.ds emptySt hi))
  · rw [List.getD_eq_getElem?_getD, List.getElem?_eq_none (by omega)]
    exact ⟨Nat.zero_le _, Nat.zero_le _⟩
theorem Fb.mkd {f : Fst} {n : Nat} (h : Fb f n) (hn : n ≤ 90) (a : List UInt8) : Fb (mkF f a) (n + 1) := by
  have hc := h.cnt hn
  unfold mkF
  by_cases hE : newF f a = 0
  · rw [if_pos hE]
    unfold newF at hE
    split at hE
    · cases hE
    · split at hE
      · cases hE
      · have h1 := h.ds
        have h2 := h.ws
        refine ⟨⟨h.ok.wf, okCs_snoc.2 ⟨h.ok.ok, (create_ok h.ok.last hE _).1⟩, by show (f.ws ++ [_]).length ≤ _; simp; omega, by show (f.ds ++ [emptySt]).length ≤ _; simp; omega, hc.ok.k, hc.ok.r, hc.ok.rll, hc.ok.cap⟩, hc.k, hc.r, by show (f.ds ++ [emptySt]).length ≤ _; simp; omega, by show (f.ws ++ [_]).length ≤ _; simp; omega, fun s hs => ?_⟩
        rcases List.mem_append.1 hs with hs | hs
        · exact hc.st s hs
        · rw [List.mem_singleton] at hs
          subst hs
          exact ⟨Nat.zero_le _, Nat.zero_le _⟩
  · rw [if_neg hE]
    exact hc
theorem Fb.wr {f : Fst} {n : Nat} (h : Fb f n) (hn : n ≤ 90) (i at_ : Int) (m : Nat) (bf : Int → Int) (hm : m ≤ 3000) (ha : at_ ≤ 20000 ∨ 2097152 < at_) : Fb (wrF f i at_ m bf).2 (n + 1) := by
  have hc := h.cnt hn
  have h2 := h.r
  unfold wrF
  split
  · exact hc
  · split
    · exact hc
    · split
      · have e : refN f.rl f.k f.r ≤ f.r + 1 := by unfold refN; split <;> omega
        refine ⟨⟨hc.ok.wf, hc.ok.ok, hc.ok.wsl, hc.ok.dsl, hc.ok.k, ?_, hc.ok.rll, hc.ok.cap⟩, hc.k, ?_, hc.ds, hc.ws, hc.st⟩
        · have := hc.ok.r
          show 0 ≤ (Go.Proofs.Ytlgkcbdpaffigaa.cnt f).r + 1 ∧ (Go.Proofs.Ytlgkcbdpaffigaa.cnt f).r + 1 ≤ 100000
          have e' : (Go.Proofs.Ytlgkcbdpaffigaa.cnt f).r ≤ f.r + 1 := e
          omega
        · show refN f.rl f.k f.r + 1 ≤ _
          omega
      · have g := h.get i.toNat
        refine hc.set i.toNat ?_
        split
        · rename_i hh
          have hr := of_decide_eq_true hh.1
          rw [write_size, write_wait]
          unfold hiF loF
          omega
        · exact ⟨g.1, by omega⟩
end Go.Proofs.Ytlgkcbdpaffigaa

namespace Go.Proofs.Ytlgkcbdpaffigaa
open Go Go.SX Go.Proofs
set_option maxRecDepth 100000
set_option linter.unusedVariables false
set_option linter.unusedSimpArgs false
theorem Fb.sy {f : Fst} {n : Nat} (h : Fb f n) (hn : n ≤ 90) (i : Int) : Fb (syF f i).2 (n + 1) := by
  have hc := h.cnt hn
  unfold syF
  split
  · exact hc
  · split
    · exact hc
    · refine hc.set i.toNat ⟨?_, by rw [sync_wait]; exact Nat.zero_le _⟩
      rw [sync_size]
      exact (h.get i.toNat).1
theorem Fb.sd {f : Fst} {n : Nat} (h : Fb f n) (hn : n ≤ 90) : Fb (sdF f).2 (n + 1) := by
  have hc := h.cnt hn
  unfold sdF
  split
  · exact hc
  · exact ⟨⟨h.ok.last, trivial, Nat.zero_le _, hc.ok.dsl, hc.ok.k, hc.ok.r, hc.ok.rll, hc.ok.cap⟩, hc.k, hc.r, hc.ds, Nat.zero_le _, hc.st⟩
theorem Fb.rn {f : Fst} {n : Nat} (h : Fb f n) (hn : n ≤ 90) (a t : List UInt8) : Fb (rnF f a t).2 (n + 1) := by
  have hc := h.cnt hn
  have h2 := h.ws
  unfold rnF
  split
  · exact hc
  · by_cases hE : renameE (lastE f.S f.ws) a t = 0
    · rw [if_pos hE]
      exact ⟨⟨h.ok.wf, okCs_snoc.2 ⟨h.ok.ok, (rename_ok h.ok.last hE).1⟩, by show (f.ws ++ [_]).length ≤ _; simp; omega, hc.ok.dsl, hc.ok.k, hc.ok.r, hc.ok.rll, hc.ok.cap⟩, hc.k, hc.r, hc.ds, by show (f.ws ++ [_]).length ≤ _; simp; omega, hc.st⟩
    · rw [if_neg hE]
      exact hc
theorem Fb.rm {f : Fst} {n : Nat} (h : Fb f n) (hn : n ≤ 90) (a : List UInt8) : Fb (rmF f a).2 (n + 1) := by
  have hc := h.cnt hn
  have h2 := h.ws
  unfold rmF
  split
  · exact hc
  · by_cases hE : removeE (lastE f.S f.ws) a = 0
    · rw [if_pos hE]
      exact ⟨⟨h.ok.wf, okCs_snoc.2 ⟨h.ok.ok, (remove_ok hE).1⟩, by show (f.ws ++ [_]).length ≤ _; simp; omega, hc.ok.dsl, hc.ok.k, hc.ok.r, hc.ok.rll, hc.ok.cap⟩, hc.k, hc.r, hc.ds, by show (f.ws ++ [_]).length ≤ _; simp; omega, hc.st⟩
    · rw [if_neg hE]
      exact hc
theorem Fb.up {f : Fst} {n : Nat} (h : Fb f n) : Fb f (n + 1) := ⟨h.ok, by have := h.k; omega, by have := h.r; omega, by have := h.ds; omega, by have := h.ws; omega, fun s hs => ⟨(h.st s hs).1, by have := (h.st s hs).2; omega⟩⟩
theorem crDs_all {p : St → Prop} {ds : List St} (n : Nat) (kb : Nat → Bool) (fill : Int) (h : ∀ s ∈ ds, p s) (hc : ∀ j, j < ds.length → ∀ m k, p (crashSt (ds.getD j emptySt) m k fill)) : ∀ j, j ≤ ds.length → ∀ s ∈ crDs ds n kb fill j, p s
  | 0, _ => h
  | j + 1, hj => fun s hs => by
    rcases mem_set (show s ∈ (crDs ds n kb fill j).set j _ from hs) with hs | rfl
    · exact crDs_all n kb fill h hc j (by omega) s hs
    · exact hc j (by omega) _ _
theorem Fb.cr {f : Fst} {n : Nat} (h : Fb f n) (m : Nat) (kb : Nat → Bool) (nm fill : Int) : Fb (crashF f m kb nm fill) (n + 1) := by
  have hu := h.up
  refine ⟨⟨wf_last h.ok.wf (okCs_take h.ok.ok _), trivial, Nat.zero_le _, ?_, h.ok.k, h.ok.r, Nat.zero_le _, h.ok.cap⟩, hu.k, hu.r, ?_, Nat.zero_le _, ?_⟩
  · show (crDs _ _ _ _ _).length ≤ _
    rw [crDs_len]
    exact h.ok.dsl
  · show (crDs _ _ _ _ _).length ≤ _
    rw [crDs_len]
    exact hu.ds
  · exact crDs_all (p := fun s => s.size ≤ 46 ∧ s.wait.length ≤ 8 * (n + 1)) m kb fill hu.st (fun j hj m k => ⟨by rw [crash_size]; exact (h.get j).1, by rw [crash_wait]; exact Nat.zero_le _⟩) _ (Nat.le_refl _)
theorem Fb.op {f : Fst} {n : Nat} (h : Fb f n) (hn : n ≤ 90) (x : Opz) (hx : x.Small) (bf : Int → Int) (kb : Nat → Bool) (nl : List Int) (hl : nl.length ≤ 100000) : Fb (opF f x bf kb nl) (n + 1) := by
  unfold opF
  split
  · exact h.mkd hn _
  · split
    · exact h.wr hn _ _ _ _ hx.nb hx.at_
    · split
      · exact h.sy hn _
      · split
        · exact h.sd hn
        · split
          · exact h.rn hn _ _
          · split
            · exact h.rm hn _
            · split
              · exact h.cr _ _ _ _
              · exact ⟨⟨h.ok.wf, h.ok.ok, h.ok.wsl, h.ok.dsl, h.ok.k, h.ok.r, hl, h.ok.cap⟩, h.up.k, h.up.r, h.up.ds, h.up.ws, h.up.st⟩
end Go.Proofs.Ytlgkcbdpaffigaa

namespace Go.Proofs.Ytlgkcbdpaffigaa
open Go Go.SX Go.Proofs
set_option maxRecDepth 100000
set_option linter.unusedVariables false
set_option linter.unusedSimpArgs false
theorem Fb.used {f : Fst} {n : Nat} (h : Fb f n) : ∀ j, 0 ≤ usedN f j ∧ usedN f j ≤ 46 * j
  | 0 => ⟨Int.le_refl _, by show (0 : Int) ≤ _; omega⟩
  | j + 1 => by
    have ih := Fb.used h j
    have g := (h.get j).1
    show 0 ≤ usedN f j + (if lnk f j = true then ((f.ds.getD j emptySt).size : Int) else 0) ∧ usedN f j + (if lnk f j = true then ((f.ds.getD j emptySt).size : Int) else 0) ≤ _
    split <;> omega
/-- A write at a file's start is done, behind few calls that weren't refused. -/
theorem wrF_ok {f : Fst} {n : Nat} (h : Fb f n) (hn : n ≤ 90) (hc : f.cap = 60000) (hr : f.rl = []) {i : Nat} (hi : i < f.ds.length) (m : Nat) (hm : m ≤ 3000) (bf : Int → Int) : wrF f i 0 m bf = (0, { cnt f with ds := f.ds.set i (if m ≠ 0 then writeSt (f.ds.getD i emptySt) 0 m bf else f.ds.getD i emptySt) }) := by
  have hu := h.used f.ds.length
  have hd := h.ds
  have e0 : refE f.rl f.k = 0 := by rw [hr]; rfl
  have er : rightF 0 m = true := decide_eq_true (by omega)
  have hn0 : needF (f.ds.getD i emptySt) 0 m ≤ 46 := by
    have := (h.get i).1
    unfold needF
    split <;> omega
  unfold wrF
  rw [if_neg (by rw [e0]; simp), if_neg (by rw [er]; simp; omega), Int.toNat_natCast, if_neg (by rw [hc]; omega), er]
  simp
end Go.Proofs.Ytlgkcbdpaffigaa

namespace Go.Proofs.Ytlgkcbdpaffigaa
open Go Go.SX Go.Proofs
set_option maxRecDepth 100000
set_option linter.unusedVariables false
set_option linter.unusedSimpArgs false
theorem look_create {l : List Ent} (h : WfE l) {a : List UInt8} (hc : createE l a = 0) (id : Int) (t : List UInt8) : lookE (doL l ⟨[], a, id⟩) t = if t = a then some id else lookE l t := by
  rw [← (create_ok h hc id).2, with5_eq h.asc, look_with (asc_without h.asc a) (has_without a), look_without]
  split <;> simp_all
/-- A disk that is safe, with such bytes at its start. -/
structure Safe (s : St) (m : Nat) (bf : Int → Int) : Prop where
  size : m ≤ 512 * s.size
  zero : m = 0 → s.size = 0
  now : ∀ p : Int, 0 ≤ p → p < m → s.now p = bf p
  has : ∀ i, i < s.size → s.has i = true
  safe : ∀ p : Int, 0 ≤ p → p < 512 * s.size → s.safe p = s.now p
  wait : s.wait = []
theorem safe_new (m : Nat) (bf : Int → Int) : Safe (syncSt (if m ≠ 0 then writeSt emptySt 0 m bf else emptySt)) m bf := by
  have hw : ∀ s : St, (syncSt s).has = fun i => if i < s.size then true else s.has i := fun s => rfl
  refine ⟨?_, fun e => ?_, fun p h0 h1 => ?_, fun i hi => ?_, fun p h0 h1 => ?_, rfl⟩
  · rw [sync_size]
    split
    · rw [write_size]
      have : (emptySt).size = 0 := rfl
      unfold hiF
      omega
    · omega
  · rw [sync_size, if_neg (fun h => h e)]
    rfl
  · have : m ≠ 0 := by omega
    show (if m ≠ 0 then writeSt emptySt 0 m bf else emptySt).now p = _
    rw [if_pos this]
    show (if (0 : Int) ≤ p ∧ p < 0 + m then bf (p - 0) else _) = _
    rw [if_pos ⟨h0, by omega⟩, Int.sub_zero]
  · exact if_pos hi
  · exact if_pos ⟨h0, h1⟩
theorem crashA_nowE (s : St) (fill : Int) (p : Int) : ∀ k : Nat, (crashA s fill k).now p = if 0 ≤ p ∧ p < 512 * k then (if s.has (p / 512).toNat = true then s.safe p else strangeF (p / 512).toNat fill (p - 512 * (p / 512).toNat)) else s.now p
  | 0 => by rw [if_neg (by omega)]; rfl
  | k + 1 => by
    show (if 512 * (k : Int) ≤ p ∧ p < 512 * k + 512 then (if s.has k = true then secAt s.safe k else strangeF k fill) (p - 512 * k) else (crashA s fill k).now p) = _
    by_cases c : 512 * (k : Int) ≤ p ∧ p < 512 * k + 512
    · have e : (p / 512).toNat = k := by omega
      have c' : 0 ≤ p ∧ p < 512 * ((k + 1 : Nat) : Int) := by omega
      rw [if_pos c, if_pos c', e]
      by_cases hh : s.has k = true
      · rw [if_pos hh, if_pos hh]
        unfold secAt
        congr 1
        omega
      · rw [if_neg hh, if_neg hh]
    · rw [if_neg c, crashA_nowE s fill p k]
      by_cases c2 : 0 ≤ p ∧ p < 512 * (k : Int)
      · have c3 : 0 ≤ p ∧ p < 512 * ((k + 1 : Nat) : Int) := by omega
        rw [if_pos c2, if_pos c3]
      · have c3 : ¬ (0 ≤ p ∧ p < 512 * ((k + 1 : Nat) : Int)) := by omega
        rw [if_neg c2, if_neg c3]
theorem Safe.crash {s : St} {m : Nat} {bf : Int → Int} (h : Safe s m bf) (n : Nat) (kb : Nat → Bool) (fill : Int) : Safe (crashSt s n kb fill) m bf := by
  have hz := crash_size s n kb fill
  have hn : ∀ p : Int, 0 ≤ p → p < 512 * s.size → (crashSt s n kb fill).now p = s.now p := fun p h0 h1 => by
    show (keepsA (crashA s fill s.size) n kb s.wait.length).now p = _
    rw [h.wait]
    show (crashA s fill s.size).now p = _
    rw [crashA_nowE, if_pos ⟨h0, h1⟩, if_pos (h.has _ (by omega)), h.safe p h0 h1]
  have hz2 : (keepsA (crashA s fill s.size) n kb s.wait.length).size = s.size := by rw [(keepsA_same _ n kb _).1, (crashA_same s fill _).1]
  refine ⟨by rw [hz]; exact h.size, fun e => by rw [hz]; exact h.zero e, fun p h0 h1 => ?_, fun i hi => ?_, fun p h0 h1 => ?_, rfl⟩
  · rw [hn p h0 (by have := h.size; omega)]
    exact h.now p h0 h1
  · rw [hz] at hi
    exact if_pos (by rw [hz2]; exact hi)
  · rw [hz] at h1
    exact if_pos ⟨h0, by rw [hz2]; exact h1⟩
theorem crDs_at (ds : List St) (n : Nat) (kb : Nat → Bool) (fill : Int) {i : Nat} : ∀ j, i < j → j ≤ ds.length → ∃ m k, (crDs ds n kb fill j).getD i emptySt = crashSt (ds.getD i emptySt) m k fill
  | 0, h, _ => by omega
  | j + 1, h, hj => by
    by_cases e : i = j
    · subst e
      refine ⟨min (ds.getD i emptySt).wait.length (n - tkN ds n i), fun j => kb (tkN ds n i + j), ?_⟩
      show ((crDs ds n kb fill i).set i (crashSt _ _ _ fill)).getD i emptySt = _
      rw [List.getD_eq_getElem?_getD, List.getElem?_set_self (by rw [crDs_len]; omega)]
      rfl
    · obtain ⟨m, k, hh⟩ := crDs_at ds n kb fill (i := i) j (by omega) (by omega)
      refine ⟨m, k, ?_⟩
      show ((crDs ds n kb fill j).set j _).getD i emptySt = _
      rw [List.getD_eq_getElem?_getD, List.getElem?_set_ne (fun h => e h.symm), ← List.getD_eq_getElem?_getD]
      exact hh
/-- A file that is kept: its number, its name, its disk. -/
structure Kept (f : Fst) (i : Nat) (a : List UInt8) (m : Nat) (bf : Int → Int) : Prop where
  lt : i < f.ds.length
  dk : Safe (f.ds.getD i emptySt) m bf
  nm : lookE f.S a = some (i : Int)
  ws : f.ws = [] ∨ ∃ (b : List UInt8) (id : Int), b ≠ a ∧ f.ws = [⟨[], b, id⟩] ∧ WfE f.S ∧ createE f.S b = 0
theorem Kept.crash {f : Fst} {i : Nat} {a : List UInt8} {m : Nat} {bf : Int → Int} (h : Kept f i a m bf) (n : Nat) (kb : Nat → Bool) (nm fill : Int) : Kept (crashF f n kb nm fill) i a m bf := by
  obtain ⟨n', kb', e⟩ := crDs_at f.ds n kb fill f.ds.length h.lt (Nat.le_refl _)
  refine ⟨?_, ?_, ?_, .inl rfl⟩
  · show i < (crDs _ _ _ _ _).length
    rw [crDs_len]
    exact h.lt
  · show Safe ((crDs _ _ _ _ _).getD i emptySt) m bf
    rw [e]
    exact h.dk.crash _ _ _
  · show lookE (lastE f.S (f.ws.take nm.toNat)) a = _
    rcases h.ws with hw | ⟨b, id, hb, hw, wf, hc⟩
    · rw [hw, List.take_nil]
      exact h.nm
    · rw [hw]
      cases hk : nm.toNat with
      | zero => exact h.nm
      | succ k =>
        rw [List.take_succ_cons, List.take_nil]
        show lookE (doL f.S ⟨[], b, id⟩) a = _
        rw [look_create wf hc, if_neg (fun e => hb e.symm)]
        exact h.nm
theorem Kept.look {f : Fst} {i : Nat} {a : List UInt8} {m : Nat} {bf : Int → Int} (h : Kept f i a m bf) (hw : f.ws = []) : lookE (lastE f.S f.ws) a = some (i : Int) ∧ has Prod.fst (lastE f.S f.ws) a = true := by
  have e : lookE (lastE f.S f.ws) a = some (i : Int) := by
    rw [hw]
    exact h.nm
  exact ⟨e, by rw [look_has, e]; rfl⟩
/-- Another file is made. -/
theorem Kept.mkd {f : Fst} {i : Nat} {a b : List UInt8} {m : Nat} {bf : Int → Int} (h : Kept f i a m bf) (hw : f.ws = []) (wf : WfE f.S) (hb : b ≠ a) : Kept (mkF f b) i a m bf := by
  unfold mkF
  by_cases hE : newF f b = 0
  · rw [if_pos hE]
    unfold newF at hE
    split at hE
    · cases hE
    · split at hE
      · cases hE
      · rw [hw] at hE
        refine ⟨by show i < (f.ds ++ [emptySt]).length; have := h.lt; simp; omega, ?_, h.nm, .inr ⟨b, f.ds.length, hb, by show f.ws ++ [_] = _; rw [hw]; rfl, wf, hE⟩⟩
        show Safe ((f.ds ++ [emptySt]).getD i emptySt) m bf
        rw [List.getD_eq_getElem?_getD, List.getElem?_append_left h.lt, ← List.getD_eq_getElem?_getD]
        exact h.dk
  · rw [if_neg hE]
    exact ⟨h.lt, h.dk, h.nm, .inl hw⟩
/-- Another file is written. -/
theorem Kept.wr {f : Fst} {i j : Nat} {a : List UInt8} {m : Nat} {bf : Int → Int} (h : Kept f i a m bf) (hj : j ≠ i) (at_ : Int) (n : Nat) (b : Int → Int) : Kept (wrF f j at_ n b).2 i a m bf := by
  unfold wrF
  split
  · exact ⟨h.lt, h.dk, h.nm, h.ws⟩
  · split
    · exact ⟨h.lt, h.dk, h.nm, h.ws⟩
    · split
      · exact ⟨h.lt, h.dk, h.nm, h.ws⟩
      · refine ⟨by show i < (f.ds.set _ _).length; rw [List.length_set]; exact h.lt, ?_, h.nm, h.ws⟩
        show Safe ((f.ds.set _ _).getD i emptySt) m bf
        rw [List.getD_eq_getElem?_getD, List.getElem?_set_ne (by omega), ← List.getD_eq_getElem?_getD]
        exact h.dk
/-- A file that is made, written, synced, and whose name is. -/
theorem keeps_made {f : Fst} {n : Nat} (h : Fb f n) (hn : n ≤ 80) (hc : f.cap = 60000) (hr : f.rl = []) {a : List UInt8} (ha : newF f a = 0) {m : Nat} (hm : m ≤ 3000) (bf : Int → Int) :
    (wrF (mkF f a) f.ds.length 0 m bf).1 = 0 ∧ (syF (wrF (mkF f a) f.ds.length 0 m bf).2 f.ds.length).1 = 0 ∧ (sdF (syF (wrF (mkF f a) f.ds.length 0 m bf).2 f.ds.length).2).1 = 0 ∧
    Kept (sdF (syF (wrF (mkF f a) f.ds.length 0 m bf).2 f.ds.length).2).2 f.ds.length a m bf ∧ Fb (sdF (syF (wrF (mkF f a) f.ds.length 0 m bf).2 f.ds.length).2).2 (n + 4) ∧ (sdF (syF (wrF (mkF f a) f.ds.length 0 m bf).2 f.ds.length).2).2.ws = [] ∧ (sdF (syF (wrF (mkF f a) f.ds.length 0 m bf).2 f.ds.length).2).2.rl = [] := by
  have b1 := h.mkd (by omega) a
  have e1 : mkF f a = { cnt f with ds := f.ds ++ [emptySt], ws := f.ws ++ [⟨[], a, f.ds.length⟩] } := if_pos ha
  have hl1 : (mkF f a).ds.length = f.ds.length + 1 := by rw [e1]; simp
  have hi1 : f.ds.length < (mkF f a).ds.length := by omega
  have g1 : (mkF f a).ds.getD f.ds.length emptySt = emptySt := by
    rw [e1]
    show (f.ds ++ [emptySt]).getD _ _ = _
    rw [List.getD_eq_getElem?_getD, List.getElem?_append_right (Nat.le_refl _), Nat.sub_self]
    rfl
  have c1 : (mkF f a).cap = 60000 := by rw [e1]; exact hc
  have r1 : (mkF f a).rl = [] := by rw [e1]; exact hr
  have s1 : lastE (mkF f a).S (mkF f a).ws = doL (lastE f.S f.ws) ⟨[], a, f.ds.length⟩ := by
    rw [e1]
    show (f.ws ++ [_]).foldl doL f.S = _
    rw [List.foldl_append]
    rfl
  have w2 := wrF_ok b1 (by omega) c1 r1 hi1 m hm bf
  have b2 := b1.wr (by omega) (f.ds.length : Int) 0 m bf hm (.inl (by omega))
  rw [w2] at b2 ⊢
  rw [g1] at b2 ⊢
  generalize hX : (if m ≠ 0 then writeSt emptySt 0 m bf else emptySt) = X at *
  generalize mkF f a = f1 at *
  have e2 : refE f1.rl (f1.k + 1) = 0 := by rw [r1]; rfl
  have y3 : syF { cnt f1 with ds := f1.ds.set f.ds.length X } f.ds.length = ((0 : Int), { cnt { cnt f1 with ds := f1.ds.set f.ds.length X } with ds := f1.ds.set f.ds.length (syncSt X) }) := by
    unfold syF
    rw [if_neg (by show ¬ refE f1.rl (f1.k + 1) ≠ 0; rw [e2]; simp), if_neg (by show ¬ ((f.ds.length : Int) < 0 ∨ ((f1.ds.set f.ds.length X).length : Int) ≤ f.ds.length); rw [List.length_set]; omega)]
    show ((0 : Int), { cnt { cnt f1 with ds := f1.ds.set f.ds.length X } with ds := (f1.ds.set f.ds.length X).set (f.ds.length : Int).toNat (syncSt ((f1.ds.set f.ds.length X).getD (f.ds.length : Int).toNat emptySt)) }) = _
    rw [Int.toNat_natCast, List.getD_eq_getElem?_getD, List.getElem?_set_self hi1, List.set_set]
    rfl
  have b3 := b2.sy (by omega) (f.ds.length : Int)
  rw [y3] at b3 ⊢
  have e3 : refE f1.rl (f1.k + 1 + 1) = 0 := by rw [r1]; rfl
  have b4 := b3.sd (by omega)
  have y4 : sdF { cnt { cnt f1 with ds := f1.ds.set f.ds.length X } with ds := f1.ds.set f.ds.length (syncSt X) } = ((0 : Int), { cnt { cnt { cnt f1 with ds := f1.ds.set f.ds.length X } with ds := f1.ds.set f.ds.length (syncSt X) } with S := lastE f1.S f1.ws, ws := [] }) := by
    unfold sdF
    rw [if_neg (by show ¬ refE f1.rl (f1.k + 1 + 1) ≠ 0; rw [e3]; simp)]
    rfl
  rw [y4] at b4 ⊢
  refine ⟨rfl, rfl, rfl, ⟨?_, ?_, ?_, .inl rfl⟩, b4, rfl, r1⟩
  · show f.ds.length < (f1.ds.set _ _).length
    rw [List.length_set]
    exact hi1
  · show Safe ((f1.ds.set _ _).getD _ emptySt) m bf
    rw [List.getD_eq_getElem?_getD, List.getElem?_set_self hi1]
    show Safe (syncSt X) m bf
    rw [← hX]
    exact safe_new m bf
  · show lookE (lastE f1.S f1.ws) a = _
    rw [s1]
    unfold newF at ha
    split at ha
    · cases ha
    · split at ha
      · cases ha
      · rw [look_create h.ok.last ha, if_pos rfl]
end Go.Proofs.Ytlgkcbdpaffigaa

namespace Go.Proofs.Ytlgkcbdpaffigaa
open Go Go.SX Go.Proofs Go.ChangeShapes Go.WideShapes Go.ChangeAt Go.ChangeMaps Go.RowKit
set_option maxRecDepth 100000
set_option linter.unusedVariables false
theorem Try.own : ownKnob Try.prog.godebug = none := by kernel_rfl
theorem Try.laidOut : laidOutB Try.prog = true := by kernel_rfl
theorem Try.cells3 : Try.prog.cellsOf 3 = 1 := by kernel_rfl
theorem Try.cells4 : Try.prog.cellsOf 4 = 1 := by kernel_rfl
theorem Try.cells9 : Try.prog.cellsOf 9 = 1 := by kernel_rfl
section
variable {H : Type} {enc : TypeId × Value → H} {W : World}
theorem ba_lit (s : List UInt8) : ba s = ⟨s.toArray⟩ := rfl
end
end Go.Proofs.Ytlgkcbdpaffigaa

namespace Go.Proofs.Ytlgkcbdpaffigaa
open Go Go.SX Go.Proofs Go.ChangeShapes Go.WideShapes Go.ChangeAt Go.ChangeMaps Go.RowKit
set_option maxRecDepth 100000
set_option linter.unusedVariables false
theorem Try.cells5 : Try.prog.cellsOf 5 = 1 := by kernel_rfl
theorem Try.cells64 : Try.prog.cellsOf 64 = 10 := by kernel_rfl
theorem Try.cells53 : Try.prog.cellsOf 53 = 3 := by kernel_rfl
theorem Try.cells55 : Try.prog.cellsOf 55 = 5 := by kernel_rfl
theorem Try.cells25 : Try.prog.cellsOf 25 = 1 := by kernel_rfl
theorem Try.cells31 : Try.prog.cellsOf 31 = 1 := by kernel_rfl
theorem Try.cells62 : Try.prog.cellsOf 62 = 1 := by kernel_rfl
structure Slx where
  q : Option Addr
  n : Nat
  c : Nat
def slxC (x : Slx) : List Value := [.slice x.q x.n x.c]
section
variable {H : Type} {enc : TypeId × Value → H} {W : World}
theorem dec_bytes : Dec enc Try.prog W 25 slxC (fun x => ∃ bf, Ints W .u8 x.q x.n bf ∧ x.n ≤ x.c ∧ ∀ i : Int, 0 ≤ i → i < x.n → isByte (bf i)) := fun fuel cs x h => by
  obtain ⟨q, n, c, b, e, l, _, i, wf⟩ := ints_of_trod Try.underlying25 Try.underlying5 Try.cells5 h
  exact ⟨⟨q, n, c⟩, e, b, i, l, fun i h0 h1 => wf_u8 (wf i h0 h1)⟩
theorem dec_bools : Dec enc Try.prog W 31 slxC (fun x => ∃ kb, Bools W x.q x.n kb ∧ x.n ≤ x.c) := fun fuel cs x h => by
  obtain ⟨q, n, c, b, e, l, _, i⟩ := bools_of_trod Try.underlying31 Try.underlying4 Try.cells4 h
  exact ⟨⟨q, n, c⟩, e, b, i, l⟩
structure Crx where
  k : Slx
  nm : Int
  fill : Int
def crxC (x : Crx) : List Value := slxC x.k ++ [.int .i64 x.nm, .int .u8 x.fill]
theorem dec_crash : Dec enc Try.prog W 53 crxC (fun x => (∃ kb, Bools W x.k.q x.k.n kb ∧ x.k.n ≤ x.k.c) ∧ isByte x.fill) := fun fuel cs x h => by
  obtain ⟨xs, n, _, _, hcl, hxl, hf⟩ := DataW.trod_struct Try.underlying53 h
  rw [Try.cells53] at hcl
  obtain ⟨k, e0, g0⟩ := dec_field hf hxl (i := 0) (o := 0) rfl Try.cells31 rfl rfl dec_bools
  obtain ⟨m, e1, _⟩ := dec_field hf hxl (i := 1) (o := 1) rfl Try.cells3 rfl rfl (dec_int Try.underlying3)
  obtain ⟨y, e2, g2⟩ := dec_field hf hxl (i := 2) (o := 2) rfl Try.cells5 rfl rfl (dec_int Try.underlying5)
  refine ⟨⟨k, m, y⟩, ?_, g0, wf_u8 g2⟩
  rw [← List.drop_zero (l := cs), e0, e1, e2, dec_end hcl]
  simp [crxC]
theorem dec_ns : Dec enc Try.prog W 62 slxC (fun x => ∃ nl : List Int, x.n = nl.length ∧ RowsAt W 1 intC x.q nl) := fun fuel cs x h => by
  obtain ⟨q, c, l, e, _, _, r, _⟩ := dec_rows Try.underlying62 Try.cells3 (dec_int Try.underlying3) h
  exact ⟨⟨q, l.length, c⟩, e, l, rfl, r⟩
structure OpzRaw (W : World) (x : Opz) : Prop where
  b : ∃ bf, Ints W .u8 x.qb x.nb bf ∧ x.nb ≤ x.cb ∧ ∀ i : Int, 0 ≤ i → i < x.nb → isByte (bf i)
  k : ∃ kb, Bools W x.qk x.nk kb ∧ x.nk ≤ x.ck
  n : ∃ nl : List Int, x.nn = nl.length ∧ RowsAt W 1 intC x.qn nl
  fill : isByte x.fill
theorem dec_opz : Dec enc Try.prog W 64 opzC (OpzRaw W) := fun fuel cs x h => by
  obtain ⟨xs, n, _, _, hcl, hxl, hf⟩ := DataW.trod_struct Try.underlying64 h
  rw [Try.cells64] at hcl
  obtain ⟨k, e0, _⟩ := dec_field hf hxl (i := 0) (o := 0) rfl Try.cells3 rfl rfl (dec_int Try.underlying3)
  obtain ⟨id, e1, _⟩ := dec_field hf hxl (i := 1) (o := 1) rfl Try.cells3 rfl rfl (dec_int Try.underlying3)
  obtain ⟨at_, e2, _⟩ := dec_field hf hxl (i := 2) (o := 2) rfl Try.cells3 rfl rfl (dec_int Try.underlying3)
  obtain ⟨a, e3, _⟩ := dec_field hf hxl (i := 3) (o := 3) rfl Try.cells9 rfl rfl (dec_str Try.underlying9)
  obtain ⟨t, e4, _⟩ := dec_field hf hxl (i := 4) (o := 4) rfl Try.cells9 rfl rfl (dec_str Try.underlying9)
  obtain ⟨b, e5, g5⟩ := dec_field hf hxl (i := 5) (o := 5) rfl Try.cells25 rfl rfl dec_bytes
  obtain ⟨c, e6, g6⟩ := dec_field hf hxl (i := 6) (o := 6) rfl Try.cells53 rfl rfl dec_crash
  obtain ⟨m, e7, g7⟩ := dec_field hf hxl (i := 7) (o := 9) rfl Try.cells62 rfl rfl dec_ns
  refine ⟨⟨k, id, at_, a, t, b.q, b.n, b.c, c.k.q, c.k.n, c.k.c, c.nm, c.fill, m.q, m.n, m.c⟩, ?_, g5, g6.1, g7, g6.2⟩
  rw [← List.drop_zero (l := cs), e0, e1, e2, e3, e4, e5, e6, e7, dec_end hcl]
  simp [opzC, ba_lit, slxC, crxC]
structure Kpx where
  nm : List UInt8
  b : Slx
  c : Crx
def kpxC (x : Kpx) : List Value := [.string (ba x.nm)] ++ slxC x.b ++ crxC x.c
theorem dec_kept : Dec enc Try.prog W 55 kpxC (fun x => (∃ bf, Ints W .u8 x.b.q x.b.n bf ∧ x.b.n ≤ x.b.c ∧ ∀ i : Int, 0 ≤ i → i < x.b.n → isByte (bf i)) ∧ (∃ kb, Bools W x.c.k.q x.c.k.n kb ∧ x.c.k.n ≤ x.c.k.c) ∧ isByte x.c.fill) := fun fuel cs x h => by
  obtain ⟨xs, n, _, _, hcl, hxl, hf⟩ := DataW.trod_struct Try.underlying55 h
  rw [Try.cells55] at hcl
  obtain ⟨a, e0, _⟩ := dec_field hf hxl (i := 0) (o := 0) rfl Try.cells9 rfl rfl (dec_str Try.underlying9)
  obtain ⟨b, e1, g1⟩ := dec_field hf hxl (i := 1) (o := 1) rfl Try.cells25 rfl rfl dec_bytes
  obtain ⟨c, e2, g2⟩ := dec_field hf hxl (i := 2) (o := 2) rfl Try.cells53 rfl rfl dec_crash
  refine ⟨⟨a, b, c⟩, ?_, g1, g2.1, g2.2⟩
  rw [← List.drop_zero (l := cs), e0, e1, e2, dec_end hcl]
  simp [kpxC, ba_lit]
theorem open_opz {v : Value} {d : DataW H} {ps : List MemPlace} {r : Reach} {b0 : Nat} (hval : Value.okWide Try.prog W r b0 51 v) (h : DataW.Trod enc Try.prog W 0 (fun _ => true) true 51 v d ps) :
    ∃ (q : Option Addr) (c : Nat) (l : List Opz), v = .slice q l.length c ∧ RowsAt W 10 opzC q l ∧ ∀ x ∈ l, OpzRaw W x := by
  obtain ⟨a0, len, cap, rfl⟩ := okWide_slice Try.underlying51 hval
  obtain ⟨fuel, hf⟩ := h
  obtain ⟨q, c, l, hcs, h1, h2, h3, h4⟩ := dec_rows Try.underlying51 Try.cells64 dec_opz hf
  simp only [Value.cells, List.cons.injEq, and_true] at hcs
  exact ⟨q, c, l, hcs, h3, h4⟩
theorem open_kept {v : Value} {d : DataW H} {ps : List MemPlace} {r : Reach} {b0 : Nat} (hval : Value.okWide Try.prog W r b0 55 v) (h : DataW.Trod enc Try.prog W 0 (fun _ => true) true 55 v d ps) :
    ∃ x : Kpx, v = .agg (kpxC x).toArray ∧ (∃ bf, Ints W .u8 x.b.q x.b.n bf ∧ x.b.n ≤ x.b.c ∧ ∀ i : Int, 0 ≤ i → i < x.b.n → isByte (bf i)) ∧ (∃ kb, Bools W x.c.k.q x.c.k.n kb ∧ x.c.k.n ≤ x.c.k.c) ∧ isByte x.c.fill := by
  unfold Value.okWide at hval
  rw [Try.underlying55] at hval
  obtain ⟨cs, rfl, _⟩ := hval
  obtain ⟨fuel, hf⟩ := h
  obtain ⟨b, e, hb⟩ := dec_kept _ _ _ hf
  refine ⟨b, ?_, hb⟩
  have e : cs.toList = kpxC b := e
  rw [← e]
end
end Go.Proofs.Ytlgkcbdpaffigaa

namespace Go.Proofs.Ytlgkcbdpaffigaa
open Go Go.SX Go.Proofs
set_option maxRecDepth 100000
set_option linter.unusedVariables false
def VCTry6 (q : Option Addr) (m c : Nat) (nm : ByteArray) (qb : Option Addr) (nb cb : Nat) (qk : Option Addr) (nk ck : Nat) (cn fill : Int) (w : World) (R : Ending → World → Prop) : Prop :=
Known (w.alloc (Obj.cells #[Value.string nm, Value.slice qb nb cb, Value.slice qk nk ck, Value.int IntKind.i64 cn, Value.int IntKind.u8 fill] (55 : Nat)))
 [(w.heap.size, [((0 : Nat), Value.string nm), ((1 : Nat), Value.slice qb nb cb), ((2 : Nat), Value.slice qk nk ck), ((3 : Nat), Value.int IntKind.i64 cn), ((4 : Nat), Value.int IntKind.u8 fill)])] →
 Rets Try.prog (22 : Nat) #[Value.slice q m c] (w.alloc (Obj.cells #[Value.string nm, Value.slice qb nb cb, Value.slice qk nk ck, Value.int IntKind.i64 cn, Value.int IntKind.u8 fill] (55 : Nat)))
 fun (v0 : Value) (w1 : World) =>
 ∃ (t2 : Bool),
 v0 = Value.bool t2 ∧
 Keeps (w.alloc (Obj.cells #[Value.string nm, Value.slice qb nb cb, Value.slice qk nk ck, Value.int IntKind.i64 cn, Value.int IntKind.u8 fill] (55 : Nat))) w1 [w.heap.size] ∧
 bif t2 then
 Known w1 [(w.heap.size, [((0 : Nat), Value.string nm), ((1 : Nat), Value.slice qb nb cb), ((2 : Nat), Value.slice qk nk ck), ((3 : Nat), Value.int IntKind.i64 cn), ((4 : Nat), Value.int IntKind.u8 fill)])] →
 Rets Try.prog (23 : Nat) #[] w1 fun (v3 : Value) (w4 : World) =>
 ∃ (t5 : Bool),
 v3 = Value.bool t5 ∧
 Keeps w1 w4 [w.heap.size] ∧
 (Known w4
 [(w.heap.size,
 [((0 : Nat), Value.string nm), ((1 : Nat), Value.slice qb nb cb), ((2 : Nat), Value.slice qk nk ck), ((3 : Nat), Value.int IntKind.i64 cn), ((4 : Nat), Value.int IntKind.u8 fill)])] →
 R (Ending.returned (Value.bool t5)) w4)
 else
 bif decide ((↑nm.size : Int) > (300 : Int)) then
 Known w1
 [(w.heap.size, [((0 : Nat), Value.string nm), ((1 : Nat), Value.slice qb nb cb), ((2 : Nat), Value.slice qk nk ck), ((3 : Nat), Value.int IntKind.i64 cn), ((4 : Nat), Value.int IntKind.u8 fill)])] →
 Rets Try.prog (23 : Nat) #[] w1 fun (v6 : Value) (w7 : World) =>
 ∃ (t8 : Bool),
 v6 = Value.bool t8 ∧
 Keeps w1 w7 [w.heap.size] ∧
 (Known w7
 [(w.heap.size,
 [((0 : Nat), Value.string nm), ((1 : Nat), Value.slice qb nb cb), ((2 : Nat), Value.slice qk nk ck), ((3 : Nat), Value.int IntKind.i64 cn), ((4 : Nat), Value.int IntKind.u8 fill)])] →
 R (Ending.returned (Value.bool t8)) w7)
 else
 bif decide ((↑nb : Int) > (3000 : Int)) then
 Known w1
 [(w.heap.size, [((0 : Nat), Value.string nm), ((1 : Nat), Value.slice qb nb cb), ((2 : Nat), Value.slice qk nk ck), ((3 : Nat), Value.int IntKind.i64 cn), ((4 : Nat), Value.int IntKind.u8 fill)])] →
 Rets Try.prog (23 : Nat) #[] w1 fun (v9 : Value) (w10 : World) =>
 ∃ (t11 : Bool),
 v9 = Value.bool t11 ∧
 Keeps w1 w10 [w.heap.size] ∧
 (Known w10
 [(w.heap.size,
 [((0 : Nat), Value.string nm), ((1 : Nat), Value.slice qb nb cb), ((2 : Nat), Value.slice qk nk ck), ((3 : Nat), Value.int IntKind.i64 cn), ((4 : Nat), Value.int IntKind.u8 fill)])] →
 R (Ending.returned (Value.bool t11)) w10)
 else
 bif decide ((↑nk : Int) > (500 : Int)) then
 Known w1
 [(w.heap.size, [((0 : Nat), Value.string nm), ((1 : Nat), Value.slice qb nb cb), ((2 : Nat), Value.slice qk nk ck), ((3 : Nat), Value.int IntKind.i64 cn), ((4 : Nat), Value.int IntKind.u8 fill)])] →
 Rets Try.prog (23 : Nat) #[] w1 fun (v12 : Value) (w13 : World) =>
 ∃ (t14 : Bool),
 v12 = Value.bool t14 ∧
 Keeps w1 w13 [w.heap.size] ∧
 (Known w13
 [(w.heap.size,
 [((0 : Nat), Value.string nm), ((1 : Nat), Value.slice qb nb cb), ((2 : Nat), Value.slice qk nk ck), ((3 : Nat), Value.int IntKind.i64 cn), ((4 : Nat), Value.int IntKind.u8 fill)])] →
 R (Ending.returned (Value.bool t14)) w13)
 else
 Known w1
 [(w.heap.size, [((0 : Nat), Value.string nm), ((1 : Nat), Value.slice qb nb cb), ((2 : Nat), Value.slice qk nk ck), ((3 : Nat), Value.int IntKind.i64 cn), ((4 : Nat), Value.int IntKind.u8 fill)])] →
 Rets Try.prog (24 : Nat) #[Value.int IntKind.i64 (60000 : Int)] w1 fun (v15 : Value) (w16 : World) =>
 ∃ (q17 : Option Addr),
 v15 = Value.pointer q17 ∧
 Keeps w1 w16 [w.heap.size] ∧
 (Known w16
 [(w.heap.size,
 [((0 : Nat), Value.string nm), ((1 : Nat), Value.slice qb nb cb), ((2 : Nat), Value.slice qk nk ck), ((3 : Nat), Value.int IntKind.i64 cn), ((4 : Nat), Value.int IntKind.u8 fill)])] →
 Rets Try.prog (25 : Nat) #[Value.int IntKind.i64 (60000 : Int)] w16 fun (v18 : Value) (w19 : World) =>
 ∃ (q20 : Option Addr),
 v18 = Value.pointer q20 ∧
 Keeps w16 w19 [w.heap.size] ∧
 ∃ (I21 : Int → World → Prop),
 ∃ (I22 : Int → World → Nat),
 I21 (0 : Int) w19 ∧
 ∀ (i23 : Int) (w24 : World),
 I21 i23 w24 →
 Known w24
 [(w.heap.size,
 [((0 : Nat), Value.string nm), ((1 : Nat), Value.slice qb nb cb), ((2 : Nat), Value.slice qk nk ck), ((3 : Nat), Value.int IntKind.i64 cn),
 ((4 : Nat), Value.int IntKind.u8 fill)])] →
 bif decide (i23 < (↑m : Int)) then
 ((0 : Int) ≤ i23 ∧ i23 < (↑m : Int)) ∧
 SX.Ptr q fun (a25 : Addr) =>
 ∃ (i26 : Int),
 ∃ (i27 : Int),
 ∃ (i28 : Int),
 ∃ (s29 : ByteArray),
 ∃ (s30 : ByteArray),
 ∃ (q31 : Option Addr),
 ∃ (n32 : Nat),
 ∃ (n33 : Nat),
 ∃ (q34 : Option Addr),
 ∃ (n35 : Nat),
 ∃ (n36 : Nat),
 ∃ (i37 : Int),
 ∃ (i38 : Int),
 ∃ (q39 : Option Addr),
 ∃ (n40 : Nat),
 ∃ (n41 : Nat),
 (w24.cell? ((a25.add (i23.toNat * (10 : Nat))).add (0 : Nat)) = some (Value.int IntKind.i64 i26) ∧
 w24.cell? ((a25.add (i23.toNat * (10 : Nat))).add (1 : Nat)) = some (Value.int IntKind.i64 i27) ∧
 w24.cell? ((a25.add (i23.toNat * (10 : Nat))).add (2 : Nat)) = some (Value.int IntKind.i64 i28) ∧
 w24.cell? ((a25.add (i23.toNat * (10 : Nat))).add (3 : Nat)) = some (Value.string s29) ∧
 w24.cell? ((a25.add (i23.toNat * (10 : Nat))).add (4 : Nat)) = some (Value.string s30) ∧
 w24.cell? ((a25.add (i23.toNat * (10 : Nat))).add (5 : Nat)) = some (Value.slice q31 n32 n33) ∧
 w24.cell? ((a25.add (i23.toNat * (10 : Nat))).add (6 : Nat)) = some (Value.slice q34 n35 n36) ∧
 w24.cell? ((a25.add (i23.toNat * (10 : Nat))).add (7 : Nat)) = some (Value.int IntKind.i64 i37) ∧
 w24.cell? ((a25.add (i23.toNat * (10 : Nat))).add (8 : Nat)) = some (Value.int IntKind.u8 i38) ∧
 w24.cell? ((a25.add (i23.toNat * (10 : Nat))).add (9 : Nat)) = some (Value.slice q39 n40 n41) ∧ True) ∧
 (Known w24
 [(w.heap.size,
 [((0 : Nat), Value.string nm), ((1 : Nat), Value.slice qb nb cb), ((2 : Nat), Value.slice qk nk ck),
 ((3 : Nat), Value.int IntKind.i64 cn), ((4 : Nat), Value.int IntKind.u8 fill)])] →
 Rets Try.prog (26 : Nat)
 #[Value.pointer q17, Value.pointer q20,
 Value.agg
 #[Value.int IntKind.i64 i26, Value.int IntKind.i64 i27, Value.int IntKind.i64 i28, Value.string s29, Value.string s30,
 Value.slice q31 n32 n33, Value.slice q34 n35 n36, Value.int IntKind.i64 i37, Value.int IntKind.u8 i38,
 Value.slice q39 n40 n41]]
 w24 fun (v42 : Value) (w43 : World) =>
 ∃ (t44 : Bool),
 v42 = Value.bool t44 ∧
 Keeps w24 w43 [w.heap.size] ∧
 Wr IntKind.i64 (i23 + (1 : Int)) fun (i45 : Int) =>
 SameVals
 [Value.string nm, Value.slice qb nb cb, Value.slice qk nk ck, Value.int IntKind.i64 cn, Value.int IntKind.u8 fill]
 [Value.string nm, Value.slice qb nb cb, Value.slice qk nk ck, Value.int IntKind.i64 cn,
 Value.int IntKind.u8 fill] ∧
 I21 i45 w43 ∧ I22 i45 w43 < I22 i23 w24)
 else
 Known w24
 [(w.heap.size,
 [((0 : Nat), Value.string nm), ((1 : Nat), Value.slice qb nb cb), ((2 : Nat), Value.slice qk nk ck), ((3 : Nat), Value.int IntKind.i64 cn),
 ((4 : Nat), Value.int IntKind.u8 fill)])] →
 Rets Try.prog (27 : Nat) #[Value.pointer q17, Value.slice none (0 : Nat) (0 : Nat)] w24 fun (v46 : Value) (w47 : World) =>
 v46 = Value.tuple #[] ∧
 Keeps w24 w47 [w.heap.size] ∧
 (Known w47
 [(w.heap.size,
 [((0 : Nat), Value.string nm), ((1 : Nat), Value.slice qb nb cb), ((2 : Nat), Value.slice qk nk ck), ((3 : Nat), Value.int IntKind.i64 cn),
 ((4 : Nat), Value.int IntKind.u8 fill)])] →
 Rets Try.prog (28 : Nat) #[Value.pointer q17, Value.string nm] w47 fun (v48 : Value) (w49 : World) =>
 ∃ (i50 : Int),
 ∃ (i51 : Int),
 v48 = Value.tuple #[Value.int IntKind.i64 i50, Value.int IntKind.i64 i51] ∧
 Keeps w47 w49 [w.heap.size] ∧
 bif i51 != (0 : Int) then
 Known w49
 [(w.heap.size,
 [((0 : Nat), Value.string nm), ((1 : Nat), Value.slice qb nb cb), ((2 : Nat), Value.slice qk nk ck),
 ((3 : Nat), Value.int IntKind.i64 cn), ((4 : Nat), Value.int IntKind.u8 fill)])] →
 Rets Try.prog (23 : Nat) #[] w49 fun (v52 : Value) (w53 : World) =>
 ∃ (t54 : Bool),
 v52 = Value.bool t54 ∧
 Keeps w49 w53 [w.heap.size] ∧
 (Known w53
 [(w.heap.size,
 [((0 : Nat), Value.string nm), ((1 : Nat), Value.slice qb nb cb), ((2 : Nat), Value.slice qk nk ck),
 ((3 : Nat), Value.int IntKind.i64 cn), ((4 : Nat), Value.int IntKind.u8 fill)])] →
 R (Ending.returned (Value.bool t54)) w53)
 else
 Known w49
 [(w.heap.size,
 [((0 : Nat), Value.string nm), ((1 : Nat), Value.slice qb nb cb), ((2 : Nat), Value.slice qk nk ck),
 ((3 : Nat), Value.int IntKind.i64 cn), ((4 : Nat), Value.int IntKind.u8 fill)])] →
 Rets Try.prog (29 : Nat) #[Value.pointer q17, Value.int IntKind.i64 i50, Value.int IntKind.i64 (0 : Int), Value.slice qb nb cb] w49
 fun (v55 : Value) (w56 : World) =>
 ∃ (i57 : Int),
 v55 = Value.int IntKind.i64 i57 ∧
 Keeps w49 w56 [w.heap.size] ∧
 bif i57 != (0 : Int) then
 Known w56
 [(w.heap.size,
 [((0 : Nat), Value.string nm), ((1 : Nat), Value.slice qb nb cb), ((2 : Nat), Value.slice qk nk ck),
 ((3 : Nat), Value.int IntKind.i64 cn), ((4 : Nat), Value.int IntKind.u8 fill)])] →
 R (Ending.returned (Value.bool false)) w56
 else
 Known w56
 [(w.heap.size,
 [((0 : Nat), Value.string nm), ((1 : Nat), Value.slice qb nb cb), ((2 : Nat), Value.slice qk nk ck),
 ((3 : Nat), Value.int IntKind.i64 cn), ((4 : Nat), Value.int IntKind.u8 fill)])] →
 Rets Try.prog (30 : Nat) #[Value.pointer q17, Value.int IntKind.i64 i50] w56 fun (v58 : Value) (w59 : World) =>
 ∃ (i60 : Int),
 v58 = Value.int IntKind.i64 i60 ∧
 Keeps w56 w59 [w.heap.size] ∧
 bif i60 != (0 : Int) then
 Known w59
 [(w.heap.size,
 [((0 : Nat), Value.string nm), ((1 : Nat), Value.slice qb nb cb), ((2 : Nat), Value.slice qk nk ck),
 ((3 : Nat), Value.int IntKind.i64 cn), ((4 : Nat), Value.int IntKind.u8 fill)])] →
 R (Ending.returned (Value.bool false)) w59
 else
 Known w59
 [(w.heap.size,
 [((0 : Nat), Value.string nm), ((1 : Nat), Value.slice qb nb cb), ((2 : Nat), Value.slice qk nk ck),
 ((3 : Nat), Value.int IntKind.i64 cn), ((4 : Nat), Value.int IntKind.u8 fill)])] →
 Rets Try.prog (31 : Nat) #[Value.pointer q17] w59 fun (v61 : Value) (w62 : World) =>
 ∃ (i63 : Int),
 v61 = Value.int IntKind.i64 i63 ∧
 Keeps w59 w62 [w.heap.size] ∧
 bif i63 != (0 : Int) then
 Known w62
 [(w.heap.size,
 [((0 : Nat), Value.string nm), ((1 : Nat), Value.slice qb nb cb), ((2 : Nat), Value.slice qk nk ck),
 ((3 : Nat), Value.int IntKind.i64 cn), ((4 : Nat), Value.int IntKind.u8 fill)])] →
 R (Ending.returned (Value.bool false)) w62
 else
 nm.size + (1 : Nat) ≤ (9223372036854775807 : Nat) ∧
 (Known w62
 [(w.heap.size,
 [((0 : Nat), Value.string nm), ((1 : Nat), Value.slice qb nb cb), ((2 : Nat), Value.slice qk nk ck),
 ((3 : Nat), Value.int IntKind.i64 cn), ((4 : Nat), Value.int IntKind.u8 fill)])] →
 Rets Try.prog (28 : Nat) #[Value.pointer q17, Value.string (nm ++ { data := #[(126 : UInt8)] })] w62
 fun (v64 : Value) (w65 : World) =>
 ∃ (i66 : Int),
 ∃ (i67 : Int),
 v64 = Value.tuple #[Value.int IntKind.i64 i66, Value.int IntKind.i64 i67] ∧
 Keeps w62 w65 [w.heap.size] ∧
 bif i67 == (0 : Int) then
 Known w65
 [(w.heap.size,
 [((0 : Nat), Value.string nm), ((1 : Nat), Value.slice qb nb cb),
 ((2 : Nat), Value.slice qk nk ck), ((3 : Nat), Value.int IntKind.i64 cn),
 ((4 : Nat), Value.int IntKind.u8 fill)])] →
 Rets Try.prog (29 : Nat)
 #[Value.pointer q17, Value.int IntKind.i64 i66, Value.int IntKind.i64 (0 : Int),
 Value.slice qb nb cb]
 w65 fun (v68 : Value) (w69 : World) =>
 ∃ (i70 : Int),
 v68 = Value.int IntKind.i64 i70 ∧
 Keeps w65 w69 [w.heap.size] ∧
 (Known w69
 [(w.heap.size,
 [((0 : Nat), Value.string nm), ((1 : Nat), Value.slice qb nb cb),
 ((2 : Nat), Value.slice qk nk ck), ((3 : Nat), Value.int IntKind.i64 cn),
 ((4 : Nat), Value.int IntKind.u8 fill)])] →
 Rets Try.prog (32 : Nat)
 #[Value.pointer q17,
 Value.agg
 #[Value.slice qk nk ck, Value.int IntKind.i64 cn,
 Value.int IntKind.u8 fill]]
 w69 fun (v71 : Value) (w72 : World) =>
 v71 = Value.tuple #[] ∧
 Keeps w69 w72 [w.heap.size] ∧
 (Known w72
 [(w.heap.size,
 [((0 : Nat), Value.string nm), ((1 : Nat), Value.slice qb nb cb),
 ((2 : Nat), Value.slice qk nk ck),
 ((3 : Nat), Value.int IntKind.i64 cn),
 ((4 : Nat), Value.int IntKind.u8 fill)])] →
 Rets Try.prog (33 : Nat) #[Value.pointer q17, Value.string nm] w72
 fun (v73 : Value) (w74 : World) =>
 ∃ (i75 : Int),
 ∃ (i76 : Int),
 v73 =
 Value.tuple
 #[Value.int IntKind.i64 i75, Value.int IntKind.i64 i76] ∧
 Keeps w72 w74 [w.heap.size] ∧
 (Known w74
 [(w.heap.size,
 [((0 : Nat), Value.string nm),
 ((1 : Nat), Value.slice qb nb cb),
 ((2 : Nat), Value.slice qk nk ck),
 ((3 : Nat), Value.int IntKind.i64 cn),
 ((4 : Nat), Value.int IntKind.u8 fill)])] →
 Rets Try.prog (34 : Nat)
 #[Value.pointer q17, Value.int IntKind.i64 i75,
 Value.int IntKind.i64 (0 : Int),
 Value.int IntKind.i64 (↑nb : Int)]
 w74 fun (v77 : Value) (w78 : World) =>
 ∃ (q79 : Option Addr),
 ∃ (n80 : Nat),
 ∃ (n81 : Nat),
 ∃ (i82 : Int),
 v77 =
 Value.tuple
 #[Value.slice q79 n80 n81,
 Value.int IntKind.i64 i82] ∧
 Keeps w74 w78 [w.heap.size] ∧
 bif i76 == (0 : Int) then
 bif i75 == i50 then
 bif i82 == (0 : Int) then
 ∃ (s83 : ByteArray),
 s83.size = n80 ∧
 BytesAt w78 q79 s83 ∧
 ∃ (s84 : ByteArray),
 s84.size = nb ∧
 BytesAt w78 qb s84 ∧
 bif
 s83.toList ==
 s84.toList then
 Known w78
 [(w.heap.size,
 [((0 : Nat),
 Value.string
 nm),
 ((1 : Nat),
 Value.slice qb
 nb cb),
 ((2 : Nat),
 Value.slice qk
 nk ck),
 ((3 : Nat),
 Value.int
 IntKind.i64
 cn),
 ((4 : Nat),
 Value.int
 IntKind.u8
 fill)])] →
 Rets Try.prog (23 : Nat)
 #[] w78
 fun (v85 : Value)
 (w86 : World) =>
 ∃ (t87 : Bool),
 v85 = Value.bool t87 ∧
 Keeps w78 w86
 [w.heap.size] ∧
 (Known w86
 [(w.heap.size,
 [((0 :
 Nat),
 Value.string
 nm),
 ((1 :
 Nat),
 Value.slice
 qb
 nb
 cb),
 ((2 :
 Nat),
 Value.slice
 qk
 nk
 ck),
 ((3 :
 Nat),
 Value.int
 IntKind.i64
 cn),
 ((4 :
 Nat),
 Value.int
 IntKind.u8
 fill)])] →
 R
 (Ending.returned
 (Value.bool
 t87))
 w86)
 else
 Known w78
 [(w.heap.size,
 [((0 : Nat),
 Value.string
 nm),
 ((1 : Nat),
 Value.slice qb
 nb cb),
 ((2 : Nat),
 Value.slice qk
 nk ck),
 ((3 : Nat),
 Value.int
 IntKind.i64
 cn),
 ((4 : Nat),
 Value.int
 IntKind.u8
 fill)])] →
 R
 (Ending.returned
 (Value.bool false))
 w78
 else
 Known w78
 [(w.heap.size,
 [((0 : Nat), Value.string nm),
 ((1 : Nat),
 Value.slice qb nb cb),
 ((2 : Nat),
 Value.slice qk nk ck),
 ((3 : Nat),
 Value.int IntKind.i64 cn),
 ((4 : Nat),
 Value.int IntKind.u8
 fill)])] →
 R (Ending.returned (Value.bool false))
 w78
 else
 Known w78
 [(w.heap.size,
 [((0 : Nat), Value.string nm),
 ((1 : Nat), Value.slice qb nb cb),
 ((2 : Nat), Value.slice qk nk ck),
 ((3 : Nat),
 Value.int IntKind.i64 cn),
 ((4 : Nat),
 Value.int IntKind.u8 fill)])] →
 R (Ending.returned (Value.bool false)) w78
 else
 Known w78
 [(w.heap.size,
 [((0 : Nat), Value.string nm),
 ((1 : Nat), Value.slice qb nb cb),
 ((2 : Nat), Value.slice qk nk ck),
 ((3 : Nat),
 Value.int IntKind.i64 cn),
 ((4 : Nat),
 Value.int IntKind.u8 fill)])] →
 R (Ending.returned (Value.bool false))
 w78)))
 else
 Known w65
 [(w.heap.size,
 [((0 : Nat), Value.string nm), ((1 : Nat), Value.slice qb nb cb),
 ((2 : Nat), Value.slice qk nk ck), ((3 : Nat), Value.int IntKind.i64 cn),
 ((4 : Nat), Value.int IntKind.u8 fill)])] →
 Rets Try.prog (32 : Nat)
 #[Value.pointer q17,
 Value.agg #[Value.slice qk nk ck, Value.int IntKind.i64 cn, Value.int IntKind.u8 fill]]
 w65 fun (v88 : Value) (w89 : World) =>
 v88 = Value.tuple #[] ∧
 Keeps w65 w89 [w.heap.size] ∧
 (Known w89
 [(w.heap.size,
 [((0 : Nat), Value.string nm), ((1 : Nat), Value.slice qb nb cb),
 ((2 : Nat), Value.slice qk nk ck), ((3 : Nat), Value.int IntKind.i64 cn),
 ((4 : Nat), Value.int IntKind.u8 fill)])] →
 Rets Try.prog (33 : Nat) #[Value.pointer q17, Value.string nm] w89
 fun (v90 : Value) (w91 : World) =>
 ∃ (i92 : Int),
 ∃ (i93 : Int),
 v90 = Value.tuple #[Value.int IntKind.i64 i92, Value.int IntKind.i64 i93] ∧
 Keeps w89 w91 [w.heap.size] ∧
 (Known w91
 [(w.heap.size,
 [((0 : Nat), Value.string nm), ((1 : Nat), Value.slice qb nb cb),
 ((2 : Nat), Value.slice qk nk ck),
 ((3 : Nat), Value.int IntKind.i64 cn),
 ((4 : Nat), Value.int IntKind.u8 fill)])] →
 Rets Try.prog (34 : Nat)
 #[Value.pointer q17, Value.int IntKind.i64 i92,
 Value.int IntKind.i64 (0 : Int), Value.int IntKind.i64 (↑nb : Int)]
 w91 fun (v94 : Value) (w95 : World) =>
 ∃ (q96 : Option Addr),
 ∃ (n97 : Nat),
 ∃ (n98 : Nat),
 ∃ (i99 : Int),
 v94 =
 Value.tuple
 #[Value.slice q96 n97 n98, Value.int IntKind.i64 i99] ∧
 Keeps w91 w95 [w.heap.size] ∧
 bif i93 == (0 : Int) then
 bif i92 == i50 then
 bif i99 == (0 : Int) then
 ∃ (s100 : ByteArray),
 s100.size = n97 ∧
 BytesAt w95 q96 s100 ∧
 ∃ (s101 : ByteArray),
 s101.size = nb ∧
 BytesAt w95 qb s101 ∧
 bif s100.toList == s101.toList then
 Known w95
 [(w.heap.size,
 [((0 : Nat), Value.string nm),
 ((1 : Nat),
 Value.slice qb nb cb),
 ((2 : Nat),
 Value.slice qk nk ck),
 ((3 : Nat),
 Value.int IntKind.i64 cn),
 ((4 : Nat),
 Value.int IntKind.u8
 fill)])] →
 Rets Try.prog (23 : Nat) #[] w95
 fun (v102 : Value)
 (w103 : World) =>
 ∃ (t104 : Bool),
 v102 = Value.bool t104 ∧
 Keeps w95 w103 [w.heap.size] ∧
 (Known w103
 [(w.heap.size,
 [((0 : Nat),
 Value.string
 nm),
 ((1 : Nat),
 Value.slice qb
 nb cb),
 ((2 : Nat),
 Value.slice qk
 nk ck),
 ((3 : Nat),
 Value.int
 IntKind.i64
 cn),
 ((4 : Nat),
 Value.int
 IntKind.u8
 fill)])] →
 R
 (Ending.returned
 (Value.bool t104))
 w103)
 else
 Known w95
 [(w.heap.size,
 [((0 : Nat), Value.string nm),
 ((1 : Nat),
 Value.slice qb nb cb),
 ((2 : Nat),
 Value.slice qk nk ck),
 ((3 : Nat),
 Value.int IntKind.i64 cn),
 ((4 : Nat),
 Value.int IntKind.u8
 fill)])] →
 R
 (Ending.returned
 (Value.bool false))
 w95
 else
 Known w95
 [(w.heap.size,
 [((0 : Nat), Value.string nm),
 ((1 : Nat), Value.slice qb nb cb),
 ((2 : Nat), Value.slice qk nk ck),
 ((3 : Nat), Value.int IntKind.i64 cn),
 ((4 : Nat),
 Value.int IntKind.u8 fill)])] →
 R (Ending.returned (Value.bool false)) w95
 else
 Known w95
 [(w.heap.size,
 [((0 : Nat), Value.string nm),
 ((1 : Nat), Value.slice qb nb cb),
 ((2 : Nat), Value.slice qk nk ck),
 ((3 : Nat), Value.int IntKind.i64 cn),
 ((4 : Nat), Value.int IntKind.u8 fill)])] →
 R (Ending.returned (Value.bool false)) w95
 else
 Known w95
 [(w.heap.size,
 [((0 : Nat), Value.string nm),
 ((1 : Nat), Value.slice qb nb cb),
 ((2 : Nat), Value.slice qk nk ck),
 ((3 : Nat), Value.int IntKind.i64 cn),
 ((4 : Nat), Value.int IntKind.u8 fill)])] →
 R (Ending.returned (Value.bool false)) w95)))))
theorem vcTry6 (q : Option Addr) (m c : Nat) (nm : ByteArray) (qb : Option Addr) (nb cb : Nat) (qk : Option Addr) (nk ck : Nat) (cn fill : Int) (w : World) (R : Ending → World → Prop) : SX.vcFn Try.prog [(6, ⟨[(7, .int .i64)], [0, 6, 5, 3], []⟩)] Try.f6 [.v (.slice q m c), .v (.agg #[.string nm, .slice qb nb cb, .slice qk nk ck, .int .i64 cn, .int .u8 fill])] [] w R = VCTry6 q m c nm qb nb cb qk nk ck cn fill w R := by kernel_rfl
end Go.Proofs.Ytlgkcbdpaffigaa

namespace Go.Proofs.Ytlgkcbdpaffigaa
open Go Go.SX Go.Proofs
set_option maxRecDepth 100000
set_option linter.unusedVariables false
set_option linter.unusedSimpArgs false
theorem opzIn_of {W : World} {x : Opz} (h : OpzRaw W x) (hs : x.Small) : ∃ bf kb nl, OpzIn W.heap.size W x bf kb nl := by
  obtain ⟨⟨bf, b1, b2, b3⟩, ⟨kb, k1, k2⟩, ⟨nl, n1, n2⟩, h4⟩ := h
  refine ⟨bf, kb, nl, b1, b3, b2, fun h0 a e => ?_, k1, k2, fun h0 a e => ?_, n2, n1, fun h0 a e => ?_, ?_, by have := hs.nn; omega, h4⟩
  · obtain ⟨a', e', hc⟩ := b1 0 (by omega) (by omega)
    rw [e] at e'
    cases e'
    have := cell_lt hc
    rwa [add_block] at this
  · obtain ⟨a', e', hc⟩ := k1 0 h0
    rw [e] at e'
    cases e'
    have := cell_lt hc
    rwa [add_block] at this
  · obtain ⟨a', e', hc⟩ := n2 0 h0
    rw [e] at e'
    cases e'
    have := cell_lt (hc 0 _ rfl)
    rwa [add_block, add_block] at this
  · cases hn : nl with
    | nil => exact .inl rfl
    | cons y r =>
      refine .inr ?_
      obtain ⟨a', e', hc⟩ := n2 0 (by rw [hn]; simp)
      have hc := hc 0 _ rfl
      rw [cell_add0, Nat.zero_mul, cell_add0] at hc
      obtain ⟨b, o, s⟩ := a'
      cases s with
      | none => exact ⟨b, o, e'⟩
      | some z =>
        unfold World.cell? at hc
        split at hc
        · simp at hc
        · cases hc
theorem OpzIn.kp {E : Nat} {S : Nat → Prop} {w w' : World} {x : Opz} {bf : Int → Int} {kb : Nat → Bool} {nl : List Int} (h : OpzIn E w x bf kb nl) (k : Kp S w w') (hS : ∀ i, S i → E ≤ i) : OpzIn E w' x bf kb nl :=
  ⟨h.b.kp k fun h0 a e hh => by have := h.qb h0 a e; have := hS _ hh; omega, h.by_, h.cb, h.qb, h.k.kp k fun h0 a e hh => by have := h.qk h0 a e; have := hS _ hh; omega, h.ck, h.qk, h.n.kp k fun h0 a e hh => by have := h.qn h0 a e; have := hS _ hh; omega, h.nn, h.qn, h.qn0, h.nl, h.fill⟩
theorem opF_cap (f : Fst) (x : Opz) (bf : Int → Int) (kb : Nat → Bool) (nl : List Int) : (opF f x bf kb nl).cap = f.cap := by
  unfold opF mkF wrF syF sdF rnF rmF crashF
  repeat' split
  all_goals rfl
theorem Dbl.mono {E : Nat} {w : World} {Q Q' : Nat → Prop} {bp bm : Nat} {f : Fst} (h : Dbl E w Q bp bm f) (hQ : ∀ i, i < w.heap.size → Q i → Q' i) : Dbl E w Q' bp bm f := by
  obtain ⟨Op, Om, H, h1, h2, h3, h4, h5⟩ := h
  exact ⟨Op, Om, H, h1, h2, h3, fun i hi => ⟨hQ i (h4 i hi).2 (h4 i hi).1, (h4 i hi).2⟩, h5⟩
/-- The program's files, above all that was there. -/
def Ab (E : Nat) (w : World) (b : Nat) (f : Fst) : Prop := FSD w (fun i => E < i ∧ i < w.heap.size) b f
theorem Ab.of {E : Nat} {w w' : World} {b : Nat} {f : Fst} (hE : E < w.heap.size) (h : FSD w' (fun x => (E < x ∧ x < w.heap.size) ∨ w.heap.size ≤ x) b f) : Ab E w' b f :=
  h.kp (Kp.refl none_ _) fun x hl hx => ⟨id, by rcases hx with hx | hx <;> omega, hl⟩
theorem Fb.rl {f : Fst} {n : Nat} (h : Fb f n) {nl : List Int} (hl : nl.length ≤ 100000) : Fb { f with rl := nl } n :=
  ⟨⟨h.ok.wf, h.ok.ok, h.ok.wsl, h.ok.dsl, h.ok.k, h.ok.r, hl, h.ok.cap⟩, h.k, h.r, h.ds, h.ws, h.st⟩
theorem Fb.new : Fb (newFst 60000) 0 := ⟨newFst_ok 60000, by decide, by decide, by decide, by decide, fun s hs => by cases hs⟩
theorem end6 {w0 w1 : World} (hX : w0.heap.size < w1.heap.size) (k : Kp (fun i => w0.heap.size ≤ i) w0 w1) {P : World → Prop} : Rets Try.prog 23 #[] w1 fun v w' => ∃ t, v = .bool t ∧ Keeps w1 w' [w0.heap.size] ∧ (P w' → ∃ v', Ending.returned (.bool t) = Ending.returned v' ∧ v' = .bool true ∧ Kp none_ w0 w') := by
  refine (c23 w1).mono ?_
  rintro v w2 ⟨rfl, k2⟩
  exact ⟨_, rfl, k2.keeps fun b hb => ⟨by simp at hb; omega, id⟩, fun _ => ⟨_, rfl, rfl, (k.trans k2.wide).narrow (Nat.le_refl _)⟩⟩
theorem c6 {w : World} {q : Option Addr} {c : Nat} {l : List Opz} (h : RowsAt w 10 opzC q l) (hl : ∀ x ∈ l, OpzRaw w x) (x : Kpx) (g : (∃ bf, Ints w .u8 x.b.q x.b.n bf ∧ x.b.n ≤ x.b.c ∧ ∀ i : Int, 0 ≤ i → i < x.b.n → isByte (bf i)) ∧ (∃ kb, Bools w x.c.k.q x.c.k.n kb ∧ x.c.k.n ≤ x.c.k.c) ∧ isByte x.c.fill) : Rets Try.prog 6 #[.slice q l.length c, .agg (kpxC x).toArray] w fun v w' => v = .bool true ∧ Kp none_ w w' := by
  obtain ⟨nm, ⟨qb, nb, cb⟩, ⟨⟨qk, nk, ck⟩, cn, fill⟩⟩ := x
  obtain ⟨⟨bf, gb, gcb, gby⟩, ⟨kb, gk, gck⟩, hf⟩ := g
  dsimp only at *
  refine ent [_, _] Try.func6 ((vcTry6 q l.length c (ba nm) qb nb cb qk nk ck cn fill w _).mpr ?_)
  unfold VCTry6
  obtain ⟨ka, za, Ba⟩ := alloc_k3 w #[.string (ba nm), .slice qb nb cb, .slice qk nk ck, .int .i64 cn, .int .u8 fill] 55
  generalize w.alloc (.cells #[.string (ba nm), .slice qb nb cb, .slice qk nk ck, .int .i64 cn, .int .u8 fill] 55) = W at *
  have qbl : 0 < nb → ∀ a, qb = some a → a.block < w.heap.size := fun h0 a e => by
    obtain ⟨a', e', hc⟩ := gb 0 (by omega) (by omega)
    rw [e] at e'
    cases e'
    have := cell_lt hc
    rwa [add_block] at this
  have qkl : 0 < nk → ∀ a, qk = some a → a.block < w.heap.size := fun h0 a e => by
    obtain ⟨a', e', hc⟩ := gk 0 h0
    rw [e] at e'
    cases e'
    have := cell_lt hc
    rwa [add_block] at this
  have bnm : (ba nm).size = nm.length := by simp [ba, ByteArray.size]
  intro _
  refine (c22 (h.kp0 ka)).mono ?_
  rintro v w1 ⟨e, t, rfl, ht⟩
  obtain rfl := e.symm
  have K0 : Kp (fun i => w.heap.size ≤ i) w W := ka.wide
  refine ⟨_, rfl, (Kp.refl none_ _).keeps (fun b hb => ⟨by simp at hb; omega, id⟩), bif_b (fun _ _ => end6 (by omega) K0) (fun htf => ?_)⟩
  obtain ⟨hlen, hsm⟩ := ht htf
  refine bif_dec (fun _ _ => end6 (by omega) K0) (fun b1 => bif_dec (fun _ _ => end6 (by omega) K0) (fun b2 => bif_dec (fun _ _ => end6 (by omega) K0) (fun b3 => ?_)))
  have b2n : nb ≤ 3000 := by omega
  have b1n : nm.length ≤ 300 := by omega
  intro _
  refine (c24F 60000 W).mono ?_
  rintro v w2 ⟨rfl, d2, k2⟩
  have z2 := k2.size
  refine ⟨_, rfl, k2.keeps (fun b hb => ⟨by simp at hb; omega, id⟩), ?_⟩
  intro _
  refine (c25 (E := w.heap.size) 60000 w2 (by omega)).mono ?_
  rintro v w3 ⟨rfl, r3, k3⟩
  have z3 := k3.size
  have lp := d2.lt
  have lm := r3.lt
  refine ⟨_, rfl, k3.keeps (fun b hb => ⟨by simp at hb; omega, id⟩), ?_⟩
  have D0 : Dbl w.heap.size w3 (fun i => w.heap.size < i) W.heap.size w2.heap.size (newFst 60000) := by
    refine ⟨fun i => W.heap.size ≤ i ∧ i < w2.heap.size, fun i => w2.heap.size ≤ i ∧ i < w3.heap.size, [], d2.kp k3 fun x hl hx => ⟨id, hx, hl⟩, r3.kp (Kp.refl none_ _) (fun i hi => hi.elim) (fun i hil hi => ⟨id, hi, hil⟩) (fun i hi => by have := hi.1; omega), fun i hi hh => by have := hi.2; have := hh.1; omega, fun i hi => ?_, fun i hi => by have := hi.1; omega⟩
    rcases hi with ⟨hi, hh⟩ | ⟨hi, hh⟩ <;> exact ⟨by omega, by omega⟩
  have K3 : Kp (fun i => w.heap.size < i) W w3 := k2.wide.trans k3.wide
  refine ⟨fun i w' => ∃ (j : Nat) (f : Fst), i = j ∧ j ≤ l.length ∧ Dbl w.heap.size w' (fun i => w.heap.size < i) W.heap.size w2.heap.size f ∧ Fb f j ∧ f.cap = 60000 ∧ Kp (fun i => w.heap.size < i) W w', fun i _ => (l.length - i).toNat, ⟨0, _, rfl, by omega, D0, Fb.new, rfl, K3⟩, ?_⟩
  rintro i w4 ⟨j, f, rfl, hj, D4, fb, fc, K4⟩
  have z4 := K4.size
  intro _
  refine bif_dec (fun hi => ?_) (fun hi => ?_)
  · have hjl : j < l.length := by omega
    have hx := hl _ (List.getElem_mem hjl)
    have sm := hsm _ (List.getElem_mem hjl)
    obtain ⟨bf', kb', nl', gi⟩ := opzIn_of hx sm
    have gi4 : OpzIn w.heap.size w4 l[j] bf' kb' nl' := (gi.kp ka fun i hi => hi.elim).kp K4 fun i hi => by have hi : w.heap.size < i := hi; omega
    have h4 : RowsAt w4 10 opzC q l := (h.kp0 ka).kp K4 fun h0 a e hh => by
      have hh : w.heap.size < a.block := hh
      obtain ⟨a', e', hc⟩ := h 0 h0
      rw [e] at e'
      cases e'
      have := cell_lt (hc 0 _ rfl)
      rw [add_block, add_block] at this
      omega
    refine ⟨⟨by omega, hi⟩, h4.get hjl fun a ea hc => ⟨_, _, _, _, _, _, _, _, _, _, _, _, _, _, _, _, ⟨hc 0 _ rfl, hc 1 _ rfl, hc 2 _ rfl, hc 3 _ rfl, hc 4 _ rfl, hc 5 _ rfl, hc 6 _ rfl, hc 7 _ rfl, hc 8 _ rfl, hc 9 _ rfl, trivial⟩, ?_⟩⟩
    intro _
    have kb4 := fb.k
    have rb4 := fb.r
    refine (c26 D4 fb.ok (by omega) (by omega) (fun s hs => by have := (fb.st s hs).2; omega) l[j] gi4).mono ?_
    rintro v w5 ⟨rfl, D5, K5⟩
    have K5' : Kp (fun i => w.heap.size < i) w4 w5 := K5.mono fun i _ hi => hi.1
    refine ⟨_, rfl, K5'.keeps (fun b hb => ⟨by simp at hb; omega, by simp at hb; subst hb; exact Nat.lt_irrefl _⟩), wr64 (by omega) ⟨?_, ⟨j + 1, _, by omega, by omega, D5.mono (fun i _ hi => by rcases hi with hi | hi; exact hi; omega), fb.op (by omega) l[j] sm bf' kb' nl' gi4.nl, by rw [opF_cap]; exact fc, K4.trans K5'⟩, by first | omega | (dsimp only; omega)⟩⟩
    rfl
  · have ej : j = l.length := by omega
    obtain ⟨Op, Om, H, hp, _, _, bnd, _⟩ := D4
    have A4 : Ab w.heap.size w4 W.heap.size f := hp.kp (Kp.refl none_ _) fun x hl hx => ⟨id, (bnd x (.inl hx)).1, hl⟩
    have kk : ∀ {wa wb : World}, w.heap.size < wa.heap.size → Kp (fun i => w.heap.size < i ∧ i < wa.heap.size) wa wb → Keeps wa wb [w.heap.size] ∧ Kp (fun i => w.heap.size < i) wa wb ∧ w.heap.size < wb.heap.size := fun {wa wb} hz k => ⟨k.keeps (fun b hb => ⟨by simp at hb; omega, by simp at hb; subst hb; exact fun hh => Nat.lt_irrefl _ hh.1⟩), k.mono fun i _ hi => hi.1, by have := k.size; omega⟩
    have kk0 : ∀ {wa wb : World}, w.heap.size < wa.heap.size → Kp none_ wa wb → Keeps wa wb [w.heap.size] := fun {wa wb} hz k => k.keeps (fun b hb => ⟨by simp at hb; omega, id⟩)
    have s4 : w.heap.size < w4.heap.size := by omega
    intro _
    refine (c27F A4 (fun x hx => hx.2) (q := none) (c := 0) (l := []) (fun i hi => by simp at hi) (by simp) (.inl rfl)).mono ?_
    rintro v w5 ⟨rfl, d5, k5⟩
    obtain ⟨y5, k5, s5⟩ := kk s4 k5
    have A5 := Ab.of s4 d5
    have fb5 : Fb { f with rl := [] } j := fb.rl (by simp)
    generalize hf5 : ({ f with rl := [] } : Fst) = f5 at *
    have fc5 : f5.cap = 60000 := by rw [← hf5]; exact fc
    have fr5 : f5.rl = [] := by rw [← hf5]
    refine ⟨rfl, y5, ?_⟩
    intro _
    refine (c28F A5 fb5.ok (fun x hx => hx.2) nm).mono ?_
    rintro v w6 ⟨rfl, d6, k6⟩
    obtain ⟨y6, k6, s6⟩ := kk s5 k6
    have A6 := Ab.of s5 d6
    have up : ∀ {wb : World}, Kp (fun i => w.heap.size < i) W wb → Kp (fun i => w.heap.size ≤ i) w wb := fun k => K0.trans (k.mono fun i _ hi => Nat.le_of_lt hi)
    have K6 := K4.trans (k5.trans k6)
    refine ⟨_, _, rfl, y6, bif_ne (fun hne _ => end6 s6 (up K6)) (fun he => ?_)⟩
    have he : newF f5 nm = 0 := he
    rw [if_pos he]
    obtain ⟨o1, o2, o3, kp, fb9, ws9, rl9⟩ := keeps_made fb5 (by omega) fc5 fr5 he (m := nb) (by omega) bf
    have fb6 := fb5.mkd (by omega) nm
    have gbw : ∀ {wb : World}, Kp (fun i => w.heap.size < i) W wb → Ints wb .u8 qb nb bf := fun k => (gb.kp0 ka).kp k fun h0 a e hh => by have := qbl h0 a e; have hh : w.heap.size < a.block := hh; omega
    have gkw : ∀ {wb : World}, Kp (fun i => w.heap.size < i) W wb → Bools wb qk nk kb := fun k => (gk.kp ka fun _ _ _ => id).kp k fun h0 a e hh => by have := qkl h0 a e; have hh : w.heap.size < a.block := hh; omega
    intro _
    have kr6 := fb6.k
    have rr6 := fb6.r
    refine (c29 A6 fb6.ok (by omega) (by omega) (fun x hx => hx.2) (gbw K6) gby (fun h0 a e hh => by have := qbl h0 a e; have := hh.1; omega) (f5.ds.length : Int) 0 (fun s hs => by have := (fb6.st s hs).2; omega)).mono ?_
    rintro v w7 ⟨rfl, d7, k7⟩
    obtain ⟨y7, k7, s7⟩ := kk s6 k7
    have A7 := Ab.of s6 d7
    have K7 := K6.trans k7
    refine ⟨_, rfl, y7, ?_⟩
    rw [o1]
    refine bif_ne (fun hne => absurd rfl hne) (fun _ => ?_)
    have fb7 := fb6.wr (by omega) (f5.ds.length : Int) 0 nb bf (by omega) (.inl (by omega))
    intro _
    refine (c30 A7 fb7.ok (f5.ds.length : Int)).mono ?_
    rintro v w8 ⟨rfl, d8, k8⟩
    obtain ⟨y8, k8, s8⟩ := kk s7 k8
    have A8 := Ab.of s7 d8
    have K8 := K7.trans k8
    refine ⟨_, rfl, y8, ?_⟩
    rw [o2]
    refine bif_ne (fun hne => absurd rfl hne) (fun _ => ?_)
    have fb8 := fb7.sy (by omega) (f5.ds.length : Int)
    intro _
    refine (c31 A8 fb8.ok (fun x hx => hx.2)).mono ?_
    rintro v w9 ⟨rfl, d9, k9⟩
    obtain ⟨y9, k9, s9⟩ := kk s8 k9
    have A9 := Ab.of s8 d9
    have K9 := K8.trans k9
    refine ⟨_, rfl, y9, ?_⟩
    rw [o3]
    refine bif_ne (fun hne => absurd rfl hne) (fun _ => ?_)
    generalize (sdF (syF (wrF (mkF f5 nm) (↑f5.ds.length) 0 nb bf).2 ↑f5.ds.length).2).2 = f9 at *
    refine ⟨by rw [bnm]; omega, ?_⟩
    have eap : (ba nm ++ { data := #[126] } : ByteArray) = ba (nm ++ [126]) := by
      unfold ba
      apply ByteArray.ext
      simp
    rw [eap]
    have hne : nm ++ [126] ≠ nm := fun e => by
      have := congrArg List.length e
      simp at this
    intro _
    refine (c28F A9 fb9.ok (fun x hx => hx.2) (nm ++ [126])).mono ?_
    rintro v w10 ⟨rfl, d10, k10⟩
    obtain ⟨y10, k10, s10⟩ := kk s9 k10
    have A10 := Ab.of s9 d10
    have K10 := K9.trans k10
    have kp10 := kp.mkd ws9 fb9.ok.wf hne
    have fb10 := fb9.mkd (by omega) (nm ++ [126])
    refine ⟨_, _, rfl, y10, ?_⟩
    have rest : ∀ {wc : World} {fx : Fst}, Ab w.heap.size wc W.heap.size fx → w.heap.size < wc.heap.size → Kp (fun i => w.heap.size < i) W wc → Kept fx f5.ds.length nm nb bf → Fok fx → (∀ s ∈ fx.ds, s.wait.length ≤ 90000) → ∀ {P1 P2 : World → Prop} {P3 P4 P5 P6 : World → Prop},
        Rets Try.prog (32 : Nat) #[Value.pointer (some ⟨W.heap.size, 0, none⟩), Value.agg #[Value.slice qk nk ck, Value.int IntKind.i64 cn, Value.int IntKind.u8 fill]] wc fun (v88 : Value) (w89 : World) =>
          v88 = Value.tuple #[] ∧ Keeps wc w89 [w.heap.size] ∧ (P1 w89 → Rets Try.prog (33 : Nat) #[Value.pointer (some ⟨W.heap.size, 0, none⟩), Value.string (ba nm)] w89 fun (v90 : Value) (w91 : World) =>
          ∃ (i92 : Int), ∃ (i93 : Int), v90 = Value.tuple #[Value.int IntKind.i64 i92, Value.int IntKind.i64 i93] ∧ Keeps w89 w91 [w.heap.size] ∧ (P2 w91 → Rets Try.prog (34 : Nat) #[Value.pointer (some ⟨W.heap.size, 0, none⟩), Value.int IntKind.i64 i92, Value.int IntKind.i64 (0 : Int), Value.int IntKind.i64 (↑nb : Int)] w91 fun (v94 : Value) (w95 : World) =>
          ∃ (q96 : Option Addr), ∃ (n97 : Nat), ∃ (n98 : Nat), ∃ (i99 : Int), v94 = Value.tuple #[Value.slice q96 n97 n98, Value.int IntKind.i64 i99] ∧ Keeps w91 w95 [w.heap.size] ∧
            bif i93 == (0 : Int) then bif i92 == (f5.ds.length : Int) then bif i99 == (0 : Int) then
              ∃ (s100 : ByteArray), s100.size = n97 ∧ BytesAt w95 q96 s100 ∧ ∃ (s101 : ByteArray), s101.size = nb ∧ BytesAt w95 qb s101 ∧
                bif s100.toList == s101.toList then P3 w95 → Rets Try.prog (23 : Nat) #[] w95 fun (v102 : Value) (w103 : World) => ∃ (t104 : Bool), v102 = Value.bool t104 ∧ Keeps w95 w103 [w.heap.size] ∧ (P3 w103 → ∃ v', Ending.returned (.bool t104) = Ending.returned v' ∧ v' = .bool true ∧ Kp none_ w w103)
                else P3 w95 → ∃ v', Ending.returned (.bool false) = Ending.returned v' ∧ v' = .bool true ∧ Kp none_ w w95
              else P3 w95 → ∃ v', Ending.returned (.bool false) = Ending.returned v' ∧ v' = .bool true ∧ Kp none_ w w95
              else P3 w95 → ∃ v', Ending.returned (.bool false) = Ending.returned v' ∧ v' = .bool true ∧ Kp none_ w w95
              else P3 w95 → ∃ v', Ending.returned (.bool false) = Ending.returned v' ∧ v' = .bool true ∧ Kp none_ w w95)) := by
      intro wc fx Ac sc Kc kpx okx hwx P1 P2 P3 P4 P5 P6
      refine (c32 Ac okx (fun x hx => hx.2) gck (gkw Kc) (fun h0 a e => ⟨fun hh => by have := qkl h0 a e; have := hh.1; omega, by have := qkl h0 a e; omega⟩) cn fill hf hwx).mono ?_
      rintro v wd ⟨rfl, dd, kd⟩
      obtain ⟨yd, kd, sd⟩ := kk sc kd
      have Ad := Ab.of sc dd
      have Kd := Kc.trans kd
      have kpd := kpx.crash nk kb cn fill
      have wsd : (crashF fx nk kb cn fill).ws = [] := rfl
      generalize crashF fx nk kb cn fill = fd at *
      obtain ⟨lk1, lk2⟩ := kpd.look wsd
      refine ⟨rfl, yd, fun _ => (c33F Ad nm).mono ?_⟩
      rintro v we ⟨e, rfl⟩
      subst e
      rw [lk1, lk2]
      refine ⟨_, _, rfl, kk0 sd (Kp.refl _ _), fun _ => ?_⟩
      show Rets Try.prog 34 #[ptA W.heap.size 0, .int .i64 (f5.ds.length : Nat), .int .i64 0, .int .i64 nb] we _
      obtain ⟨_, col, _, pd, _⟩ := Ad.disk kpd.lt
      have hr : rightF 0 nb = true := decide_eq_true (by omega)
      refine (c34F Ad kpd.lt 0 nb hr kpd.dk.zero).mono ?_
      rintro v wf ⟨q', c', rfl, kf, rf⟩
      have Kf := Kd.trans kf.wide
      refine ⟨_, _, _, _, rfl, kk0 sd kf, ?_⟩
      rw [if_pos rfl]
      show cond (decide ((0 : Int) = 0)) (cond (decide (((f5.ds.length : Nat) : Int) = (f5.ds.length : Int))) (cond (decide ((0 : Int) = 0)) _ _) _) _
      rw [decide_eq_true rfl, decide_eq_true rfl]
      simp only [cond_true]
      have rby : ∀ p, isByte (readF (fd.ds.getD f5.ds.length emptySt) 0 p) := fun p => by
        unfold readF
        split
        · exact pd.ok.now _
        · unfold isByte; decide
      have es : SX.strOf (readF (fd.ds.getD f5.ds.length emptySt) 0) 0 nb = SX.strOf bf 0 nb := strOf_eq fun i hi => by
        unfold readF
        have := kpd.dk.size
        rw [if_pos (by omega), kpd.dk.now _ (by omega) (by omega)]
        congr 1
        omega
      have rb := row_bytes rf rby
      rw [es] at rb
      have gbf := (gbw Kf).str gby cb 0 nb (by omega) gcb
      have ecut : BytesAt wf qb (SX.strOf bf 0 nb) := fun i hi => by
        obtain ⟨a, ea, hc⟩ := gbf i hi
        have hi : i < nb := by rw [strOf_size] at hi; exact hi
        refine ⟨a, ?_, hc⟩
        rw [← ea]
        unfold cutA
        obtain ⟨b, eb, _⟩ := gb 0 (by omega) (by omega)
        rw [eb, if_neg (by omega)]
        rfl
      refine ⟨SX.strOf bf 0 nb, strOf_size _ _ _, rb, SX.strOf bf 0 nb, strOf_size _ _ _, ecut, ?_⟩
      rw [beq_self_eq_true]
      simp only [cond_true]
      intro _
      exact end6 (by have := kf.size; omega) (up Kf)
    refine bif_eq (fun he2 _ => ?_) (fun he2 _ => ?_)
    · have he2 : newF f9 (nm ++ [126]) = 0 := he2
      rw [if_pos he2]
      have kr10 := fb10.k
      have rr10 := fb10.r
      refine (c29 A10 fb10.ok (by omega) (by omega) (fun x hx => hx.2) (gbw K10) gby (fun h0 a e hh => by have := qbl h0 a e; have := hh.1; omega) (f9.ds.length : Int) 0 (fun s hs => by have := (fb10.st s hs).2; omega)).mono ?_
      rintro v w11 ⟨rfl, d11, k11⟩
      obtain ⟨y11, k11, s11⟩ := kk s10 k11
      have A11 := Ab.of s10 d11
      have K11 := K10.trans k11
      refine ⟨_, rfl, y11, fun _ => ?_⟩
      have fb11 := fb10.wr (by omega) (f9.ds.length : Int) 0 nb bf (by omega) (.inl (by omega))
      have kp11 := kp10.wr (j := f9.ds.length) (by have := kp.lt; omega) 0 nb bf
      exact rest A11 s11 K11 kp11 fb11.ok (fun s hs => by have := (fb11.st s hs).2; omega) (P4 := fun _ => True) (P5 := fun _ => True) (P6 := fun _ => True)
    · exact rest A10 s10 K10 kp10 fb10.ok (fun s hs => by have := (fb10.st s hs).2; omega) (P4 := fun _ => True) (P5 := fun _ => True) (P6 := fun _ => True)
end Go.Proofs.Ytlgkcbdpaffigaa

