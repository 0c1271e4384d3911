/- Model: what it is in memory; its small questions. -/
import Derived.Test.YtbpknjldphckgaaDoorJg
namespace Go.Proofs.YtbpknjldphckgaaDoor
open Go Go.SX Go.Proofs Go.Lib
set_option maxRecDepth 100000
set_option linter.unusedVariables false
set_option linter.unusedSimpArgs false
/-- A state: whether an archive is there, its files, where they lie. -/
structure Stx where
  t : Bool
  L : List Fil
  q : Option Addr
  c : Nat
abbrev Stx.sta (x : Stx) : Bool × List Fil := (x.t, x.L)
structure StAt (w : World) (a : Addr) (x : Stx) : Prop where
  c0 : w.cell? (a.add 0) = some (.bool x.t)
  c1 : w.cell? (a.add 1) = some (.slice x.q x.L.length x.c)
  fi : FRd w x.q x.L.length x.L
def StsAt (w : World) (q : Option Addr) (l : List Stx) : Prop := ∀ i (h : i < l.length), ∃ x, q = some x ∧ StAt w (x.add (i * 2)) l[i]
theorem StsAt.kp0 {w w' : World} {q : Option Addr} {l : List Stx} (h : StsAt w q l) (k : Kp none_ w w') : StsAt w' q l := fun i hi => by
  obtain ⟨x, e, m⟩ := h i hi
  exact ⟨x, e, k.cell0 m.c0, k.cell0 m.c1, m.fi.kp0 k⟩
theorem st_at {w : World} {q : Option Addr} {l : List Stx} (h : StsAt w q l) {i : Nat} (hi : i < l.length) {K : Addr → Prop} (hK : ∀ x, q = some x → StAt w (x.add (((i : Int).toNat) * 2)) l[i] → K x) : Ptr q K := by
  obtain ⟨x, e, m⟩ := h i hi
  subst e
  rw [ptr_some]
  exact hK x rfl (by rwa [Int.toNat_natCast])
def SRd (w : World) (q : Option Addr) (n : Nat) (M : List (Bool × List Fil)) : Prop := ∃ l : List Stx, l.map Stx.sta = M ∧ n = l.length ∧ StsAt w q l
theorem SRd.kp0 {w w' : World} {q : Option Addr} {n : Nat} {M : List (Bool × List Fil)} (h : SRd w q n M) (k : Kp none_ w w') : SRd w' q n M := by
  obtain ⟨l, h1, h2, h3⟩ := h
  exact ⟨l, h1, h2, h3.kp0 k⟩
/-- A model that is read. -/
structure MRd (w : World) (b : Nat) (p : MM) : Prop where
  may : ∃ q n c, w.cell? ⟨b, 0, none⟩ = some (.slice q n c) ∧ SRd w q n p.may
  opn : w.cell? ⟨b, 1, none⟩ = some (.bool p.opn)
  poi : w.cell? ⟨b, 2, none⟩ = some (.bool p.poisoned)
  str : w.cell? ⟨b, 3, none⟩ = some (.bool p.streaming)
  now : ∃ q n c, w.cell? ⟨b, 4, none⟩ = some (.slice q n c) ∧ FRd w q n p.now
  nam : w.cell? ⟨b, 5, none⟩ = some (.string (ba p.name))
  dat : ∃ q n c, w.cell? ⟨b, 6, none⟩ = some (.slice q n c) ∧ BRd w q n c p.data
theorem MRd.kp0 {w w' : World} {b : Nat} {p : MM} (h : MRd w b p) (k : Kp none_ w w') : MRd w' b p := by
  obtain ⟨⟨q1, n1, c1, e1, m1⟩, h1, h2, h3, ⟨q2, n2, c2, e2, m2⟩, h4, ⟨q3, n3, c3, e3, m3⟩⟩ := h
  exact ⟨⟨q1, n1, c1, k.cell0 e1, m1.kp0 k⟩, k.cell0 h1, k.cell0 h2, k.cell0 h3, ⟨q2, n2, c2, k.cell0 e2, m2.kp0 k⟩, k.cell0 h4, ⟨q3, n3, c3, k.cell0 e3, m3.kp0 k⟩⟩
/-- Its numbers are small enough, its files rise. -/
structure OkP (p : MM) : Prop where
  asc : Asc Prod.fst p.now
  now : bigL p.now
  may : ∀ x ∈ p.may, bigL x.2
  len : p.may.length ≤ 1000000
  dat : p.data.length ≤ 1000000
  str : p.streaming = true → p.data.length ≤ 65536
def pt (b : Nat) : Value := .pointer (some ⟨b, 0, none⟩)
def mutE (p : MM) : Int := if p.streaming = true then 8 else if p.poisoned = true then 11 else 0
theorem c206 {w : World} {b : Nat} {p : MM} (h : MRd w b p) : Rets Tryd.prog 206 #[pt b] w fun v w' => v = .int .i64 (mutE p) ∧ w' = w := by
  refine ent [_] Tryd.func206 ((vcTryd206 _ w _).mpr ?_)
  unfold VCTryd206
  simp only [ptr_some, ad_add, Nat.zero_add]
  refine ⟨_, h.str, bif_b (fun hs => ⟨_, rfl, by unfold mutE; rw [if_pos hs], trivial⟩) (fun hs => ⟨_, h.poi, bif_b (fun hp => ⟨_, rfl, by unfold mutE; rw [if_neg (by rw [hs]; decide), if_pos hp], trivial⟩) (fun hp => ⟨_, rfl, by unfold mutE; rw [if_neg (by rw [hs]; decide), if_neg (by rw [hp]; decide)], trivial⟩)⟩)⟩
theorem c205 {w : World} {b : Nat} {p : MM} (h : MRd w b p) (ok : OkP p) (s : ByteArray) : Rets Tryd.prog 205 #[pt b, .string s] w fun v w' => v = .int .i64 (if hasF p.now (bytesL s) = false then 7 else 0) ∧ Kp none_ w w' := by
  refine ent [_, _] Tryd.func205 ((vcTryd205 _ _ w _).mpr ?_)
  unfold VCTryd205
  simp only [ptr_some, ad_add, Nat.zero_add]
  obtain ⟨q, n, c, e, r⟩ := h.now
  refine ⟨_, _, _, e, (c137 r ok.asc ok.now.1 s).mono ?_⟩
  rintro v w1 ⟨rfl, k1⟩
  exact ⟨_, _, rfl, k1.keeps0, bif_not (fun hh => ⟨_, rfl, by rw [if_pos hh], k1⟩) (fun hh => ⟨_, rfl, by rw [if_neg (fun h0 => by have := h0.symm.trans hh; cases this)], k1⟩)⟩
theorem c204 {w : World} {b : Nat} {p : MM} (h : MRd w b p) (ok : OkP p) (x : Int) : Rets Tryd.prog 204 #[pt b, .int .i64 x] w fun v w' => v = .int .i64 (if p.streaming = false then 15 else if x > 65536 - p.data.length then 5 else 0) ∧ w' = w := by
  refine ent [_, _] Tryd.func204 ((vcTryd204 _ _ w _).mpr ?_)
  unfold VCTryd204
  simp only [ptr_some, ad_add, Nat.zero_add]
  obtain ⟨q, n, c, e, r⟩ := h.dat
  have hn := r.len
  have := ok.dat
  subst hn
  refine ⟨_, h.str, bif_not (fun hs => ⟨_, rfl, by rw [if_pos hs], trivial⟩) (fun hs => ⟨_, _, _, e, wr64 (by omega) (bif_dec (fun hh => ⟨_, rfl, by rw [if_neg (by rw [hs]; decide), if_pos hh], trivial⟩) (fun hh => ⟨_, rfl, by rw [if_neg (by rw [hs]; decide), if_neg hh], trivial⟩))⟩)⟩
theorem c203 {w : World} (hml : ML w) {b : Nat} {p : MM} (h : MRd w b p) (ok : OkP p) (s : ByteArray) (z : Int) : Rets Tryd.prog 203 #[pt b, .string s, .int .i64 z] w fun v w' => v = .int .i64 (putEr p (bytesL s) z) ∧ Kp none_ w w' := by
  refine ent [_, _, _] Tryd.func203 ((vcTryd203 _ _ _ w _).mpr ?_)
  unfold VCTryd203
  simp only [ptr_some, ad_add, Nat.zero_add]
  refine (c206 h).mono ?_
  rintro v w1 ⟨rfl, e⟩
  obtain rfl := e.symm
  refine ⟨_, rfl, (Kp.refl none_ _).keeps0, bif_ne (fun hne => ⟨_, rfl, ?_, Kp.refl _ _⟩) (fun h0 => ?_)⟩
  · congr 1
    unfold mutE at hne ⊢
    unfold putEr
    split
    · rfl
    · rename_i hs
      rw [if_neg hs] at hne
      split
      · rfl
      · rename_i hp
        rw [if_neg hp] at hne
        exact absurd rfl hne
  · have hs : p.streaming = false ∧ p.poisoned = false := by
      unfold mutE at h0
      split at h0
      · cases h0
      · rename_i hs
        split at h0
        · cases h0
        · rename_i hp
          exact ⟨by simpa using hs, by simpa using hp⟩
    have e0 : putEr p (bytesL s) z = if okName (bytesL s) = false then 6 else if z > 65536 then 5 else if hasF p.now (bytesL s) = false ∧ 200 ≤ p.now.length then 14 else 0 := by
      unfold putEr
      rw [if_neg (by rw [hs.1]; decide), if_neg (by rw [hs.2]; decide)]
    rw [e0]
    obtain ⟨q, n, c, e, r⟩ := h.now
    refine ⟨_, _, _, e, (c137 r ok.asc ok.now.1 s).mono ?_⟩
    rintro v w2 ⟨rfl, k2⟩
    refine ⟨_, _, rfl, k2.keeps0, (c104 (hml.kp0 k2) s).mono ?_⟩
    rintro v w3 ⟨rfl, k3⟩
    have K3 := k2.trans k3
    have hl := r.len
    refine ⟨_, rfl, k3.keeps0, bif_not (fun hh => ⟨_, rfl, by rw [if_pos hh], K3⟩) (fun hh => ?_)⟩
    rw [if_neg (by rw [hh]; decide)]
    refine bif_dec (fun hz => ⟨_, rfl, by rw [if_pos hz], K3⟩) (fun hz => ?_)
    rw [if_neg hz]
    refine bif_not (fun ht => ?_) (fun ht => ⟨_, rfl, by rw [if_neg (fun h0 => by have := h0.1.symm.trans ht; cases this)], K3⟩)
    refine ⟨_, _, _, K3.cell0 e, bif_dec (fun h2 => ⟨_, rfl, by rw [if_pos ⟨ht, by omega⟩], K3⟩) (fun h2 => ⟨_, rfl, by rw [if_neg (by intro hh; omega)], K3⟩)⟩
/-- Whether a state with, or without, an archive may be. -/
theorem c213 {w : World} (x : Stx) (a : Addr) (t : Bool) (h : w.cell? a = some (.bool t)) : Rets Tryd.prog 213 #[.agg #[.bool x.t, .slice x.q x.L.length x.c], .pointer (some a)] w fun v w' => v = .bool (x.t == t) ∧ Kp none_ w w' := by
  refine ent [_, _] Tryd.func213 ((vcTryd213 _ _ _ _ _ w _).mpr ?_)
  unfold VCTryd213
  have k1 : Kp none_ w (w.alloc (.cells #[.bool x.t, .slice x.q x.L.length x.c] 130)) := (Kp.refl none_ w).alloc1 _
  rw [ptr_some]
  exact ⟨_, k1.cell0 h, fun _ => ⟨_, rfl, rfl, k1⟩⟩
theorem isGo213 : isGo Tryd.prog 213 = true := by kernel_rfl
theorem c219 {w : World} {q : Option Addr} {c : Nat} {l : List Stx} (h : StsAt w q l) (hl : l.length ≤ 1000000) (a : Addr) (t : Bool) (ha : w.cell? a = some (.bool t)) : Rets Tryd.prog 219 #[.slice q l.length c, .func (.func 213) #[] #[.pointer (some a)]] w fun v w' =>
    ∃ i : Int, v = .int .i64 i ∧ decide (i ≥ 0) = (l.any fun x => x.t == t) ∧ Kp none_ w w' := by
  refine ent [_, _] Tryd.func219 ((vcTryd219 _ _ _ _ w _).mpr ?_)
  unfold VCTryd219
  refine ⟨fun i w' => ∃ j : Nat, i = j ∧ j ≤ l.length ∧ Kp none_ w w' ∧ ∀ x (hk : x < l.length), x < j → ((l[x]).t == t) = false, fun i _ => (l.length - i).toNat, ⟨0, rfl, by omega, Kp.refl _ _, fun x hk h => by omega⟩, ?_⟩
  rintro i w3 ⟨j, rfl, hj, k3, hn⟩
  refine bif_dec (fun h1 => ?_) (fun h1 => ⟨_, rfl, _, rfl, ?_, k3⟩)
  · have hjl : j < l.length := by omega
    refine ⟨⟨by omega, by omega⟩, st_at (h.kp0 k3) hjl fun x _ mx => ⟨_, _, _, _, ⟨mx.c0, mx.c1, trivial⟩, isGo213, (c213 l[j] a t (k3.cell0 ha)).mono ?_⟩⟩
    rintro v w4 ⟨rfl, k4⟩
    refine ⟨_, rfl, k4.keeps0, bif_b (fun hh => ⟨_, rfl, _, rfl, ?_, k3.trans k4⟩) (fun hh => wr64 (by omega) ⟨⟨j + 1, by omega, by omega, k3.trans k4, fun x hk hxj => ?_⟩, by first | omega | (dsimp only; omega)⟩)⟩
    · have : (l.any fun x => x.t == t) = true := List.any_eq_true.2 ⟨_, List.getElem_mem hjl, hh⟩
      rw [this]
      exact decide_eq_true (by omega)
    · by_cases e : x = j
      · subst e; exact hh
      · exact hn x hk (by omega)
  · have : (l.any fun x => x.t == t) = false := by
      rw [List.any_eq_false]
      intro x hx
      obtain ⟨k, hk, e⟩ := List.getElem_of_mem hx
      rw [← e, hn k hk (by omega)]
      decide
    rw [this]
    decide
theorem c212 {w : World} {q : Option Addr} {c : Nat} {l : List Stx} (h : StsAt w q l) (hl : l.length ≤ 1000000) (a : Addr) (t : Bool) (ha : w.cell? a = some (.bool t)) : Rets Tryd.prog 212 #[.slice q l.length c, .func (.func 213) #[] #[.pointer (some a)]] w fun v w' =>
    v = .bool (l.any fun x => x.t == t) ∧ Kp none_ w w' := by
  refine ent [_, _] Tryd.func212 ((vcTryd212 _ _ _ _ w _).mpr ?_)
  unfold VCTryd212
  refine (c219 h hl a t ha).mono ?_
  rintro v w1 ⟨i, rfl, e, k1⟩
  exact ⟨_, rfl, k1.keeps0, _, rfl, by rw [e], k1⟩
theorem c202 {w : World} {b : Nat} {p : MM} (h : MRd w b p) (ok : OkP p) (t : Bool) : Rets Tryd.prog 202 #[pt b, .bool t] w fun v w' => v = .bool (someM p t) ∧ Kp none_ w w' := by
  refine ent [_, _] Tryd.func202 ((vcTryd202 _ _ w _).mpr ?_)
  unfold VCTryd202
  simp only [ptr_some, ad_add, Nat.zero_add]
  obtain ⟨q, n, c, e, l, hm, rfl, r⟩ := h.may
  have k1 : Kp none_ w (w.alloc (.cells #[.bool t] 4)) := (Kp.refl none_ w).alloc1 _
  have B1 : Big (w.alloc (.cells #[.bool t] 4)) w.heap.size 4 [.bool t] := Big.new _ _ 4
  have hlen : l.length ≤ 1000000 := by have := ok.len; rw [← hm] at this; simpa using this
  have hc0 : (w.alloc (.cells #[.bool t] 4)).cell? ⟨w.heap.size, 0, none⟩ = some (.bool t) := by rw [B1.cell]; rfl
  have hb : ∀ {w'}, Kp none_ (w.alloc (.cells #[.bool t] 4)) w' → w'.cell? ⟨w.heap.size, 0, none⟩ = some (.bool t) ∧ w'.frozen? ⟨w.heap.size, 0, none⟩ = false := fun k => ⟨k.cell0 hc0, (B1.kp k id).frz 0⟩
  refine ⟨_, _, _, k1.cell0 e, fun _ => ?_⟩
  refine (c212 (r.kp0 k1) hlen _ t hc0).mono ?_
  rintro v w2 ⟨rfl, k2⟩
  obtain ⟨h1, h2⟩ := hb k2
  refine ⟨_, rfl, k2.keeps0, _, h1, h2, fun _ => ⟨_, rfl, ?_, k1.trans k2⟩⟩
  unfold someM
  rw [← hm, List.any_map]
  rfl
theorem c190 {w : World} {b : Nat} {p : MM} (h : MRd w b p) (ok : OkP p) (x y z : Int) : Rets Tryd.prog 190 #[pt b, .int .i64 x, .int .i64 y, .int .i64 z] w fun v w' => v = .bool (x == y && someM p true || x == z && someM p false) ∧ Kp none_ w w' := by
  refine ent [_, _, _, _] Tryd.func190 ((vcTryd190 _ _ _ _ w _).mpr ?_)
  unfold VCTryd190
  have fin : ∀ {w1 : World}, Kp none_ w w1 → (x == y && someM p true) = false → bif x == z then Rets Tryd.prog 202 #[pt b, .bool false] w1 fun v3 w4 => ∃ t5, v3 = .bool t5 ∧ Keeps w1 w4 [] ∧ (∃ v, Ending.returned (.bool t5) = Ending.returned v ∧ v = .bool (x == y && someM p true || x == z && someM p false) ∧ Kp none_ w w4) else (∃ v, Ending.returned (.bool false) = Ending.returned v ∧ v = .bool (x == y && someM p true || x == z && someM p false) ∧ Kp none_ w w1) := fun {w1} k1 e => by
    refine bif_b (fun hz => (c202 (h.kp0 k1) ok false).mono ?_) (fun hz => ⟨_, rfl, by rw [e, hz]; rfl, k1⟩)
    rintro v w2 ⟨rfl, k2⟩
    exact ⟨_, rfl, k2.keeps0, _, rfl, by rw [e, hz]; simp, k1.trans k2⟩
  refine bif_b (fun hy => (c202 h ok true).mono ?_) (fun hy => fin (Kp.refl _ _) (by rw [hy]; rfl))
  rintro v w1 ⟨rfl, k1⟩
  refine ⟨_, rfl, k1.keeps0, bif_b (fun ht => ⟨_, rfl, by rw [hy, ht]; rfl, k1⟩) (fun ht => fin k1 (by rw [hy, ht]; rfl))⟩
end Go.Proofs.YtbpknjldphckgaaDoor
