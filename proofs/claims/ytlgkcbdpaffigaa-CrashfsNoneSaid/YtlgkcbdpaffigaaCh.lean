/- Names: whether a name stands for a number; what is made safe; what is lost. -/
import Derived.Test.YtlgkcbdpaffigaaCg
namespace Go.Proofs.Ytlgkcbdpaffigaa
open Go Go.SX Go.Proofs
set_option maxRecDepth 100000
set_option linter.unusedVariables false
set_option linter.unusedSimpArgs false
theorem isGo90 : isGo Try.prog 90 = true := by kernel_rfl
theorem c90 {w : World} (c : Chg) (a : Addr) (id : Int) (h : w.cell? a = some (.int .i64 id)) : Rets Try.prog 90 #[chV c, .pointer (some a)] w fun v w' => v = .bool (c.fr == [] && c.id == id) ∧ Kp none_ w w' := by
  refine ent [_, _] Try.func90 ((vcTry90 _ _ _ _ w _).mpr ?_)
  unfold VCTry90
  have ka : Kp none_ w (w.alloc (.cells #[.string (ba c.fr), .string (ba c.tr), .int .i64 c.id] 135)) := (Kp.refl none_ _).alloc1 _
  rw [toL_ba, show ({ data := #[] } : ByteArray).toList = [] from toL_ba []]
  refine bif_b (fun hh => ?_) (fun hh _ => ⟨_, rfl, by rw [hh]; rfl, ka⟩)
  rw [ptr_some]
  exact ⟨_, ka.cell0 h, fun _ => ⟨_, rfl, by rw [hh]; rfl, ka⟩⟩
theorem c109 {w : World} {q : Option Addr} {cc : Nat} {l : List Chg} (hr : RowsAt w 3 chC q l) (hl : l.length ≤ 1000000) (a : Addr) (id : Int) (h : w.cell? a = some (.int .i64 id)) : Rets Try.prog 109 #[.slice q l.length cc, .func (.func 90) #[] #[.pointer (some a)]] w fun v w' => ∃ i : Int, v = .int .i64 i ∧ decide (i ≥ 0) = made l id ∧ Kp none_ w w' := by
  refine ent [_, _] Try.func109 ((vcTry109 _ _ _ _ w _).mpr ?_)
  unfold VCTry109
  refine ⟨fun i w' => ∃ j : Nat, i = j ∧ j ≤ l.length ∧ Kp none_ w w' ∧ ∀ x (hx : x < l.length), x < j → ((l[x]).fr == [] && (l[x]).id == id) = false, fun i _ => (l.length - i).toNat, ⟨0, rfl, by omega, Kp.refl _ _, fun x hx h => by omega⟩, ?_⟩
  rintro i w3 ⟨j, rfl, hj, k3, hn⟩
  refine bif_dec (fun h1 => ?_) (fun h1 => ⟨_, rfl, _, rfl, ?_, k3⟩)
  · have hjl : j < l.length := by omega
    refine ⟨⟨by omega, by omega⟩, (hr.kp0 k3).get hjl fun x _ hc => ⟨_, _, _, ⟨hc 0 _ rfl, hc 1 _ rfl, hc 2 _ rfl, trivial⟩, isGo90, (c90 l[j] a id (k3.cell0 h)).mono ?_⟩⟩
    rintro v w4 ⟨rfl, k4⟩
    refine ⟨_, rfl, k4.keeps0, bif_b (fun hh => ⟨_, rfl, _, rfl, ?_, k3.trans k4⟩) (fun hh => wr64 (by omega) ⟨⟨j + 1, by omega, by omega, k3.trans k4, fun x hk hxj => ?_⟩, by first | omega | (dsimp only; omega)⟩)⟩
    · have : made l id = true := by
        unfold made
        exact List.any_eq_true.2 ⟨_, List.getElem_mem hjl, hh⟩
      rw [this]
      exact decide_eq_true (by omega)
    · by_cases e : x = j
      · subst e; exact hh
      · exact hn x hk (by omega)
  · have : made l id = false := by
      unfold made
      rw [List.any_eq_false]
      intro x hx
      obtain ⟨k, hk, e⟩ := List.getElem_of_mem hx
      rw [← e, hn k hk (by omega)]
      decide
    rw [this]
    decide
theorem c89 {w : World} {q : Option Addr} {cc : Nat} {l : List Chg} (hr : RowsAt w 3 chC q l) (hl : l.length ≤ 1000000) (a : Addr) (id : Int) (h : w.cell? a = some (.int .i64 id)) : Rets Try.prog 89 #[.slice q l.length cc, .func (.func 90) #[] #[.pointer (some a)]] w fun v w' => v = .bool (made l id) ∧ Kp none_ w w' := by
  refine ent [_, _] Try.func89 ((vcTry89 _ _ _ _ w _).mpr ?_)
  unfold VCTry89
  refine (c109 hr hl a id h).mono ?_
  rintro v w1 ⟨i, rfl, e, k1⟩
  exact ⟨_, rfl, k1.keeps0, _, rfl, by rw [e], k1⟩
theorem c110 {w : World} {q : Option Addr} {cc : Nat} {l : List Int} (hr : RowsAt w 1 intC q l) (hl : l.length ≤ 1000000) (id : Int) : Rets Try.prog 110 #[.slice q l.length cc, .int .i64 id] w fun v w' => w' = w ∧ ∃ i : Int, v = .int .i64 i ∧ decide (i ≥ 0) = l.any (· == id) := by
  refine ent [_, _] Try.func110 ((vcTry110 _ _ _ _ w _).mpr ?_)
  unfold VCTry110
  refine ⟨fun i w' => ∃ j : Nat, i = j ∧ j ≤ l.length ∧ w' = w ∧ ∀ x (hx : x < l.length), x < j → l[x] ≠ id, fun i _ => (l.length - i).toNat, ⟨0, rfl, by omega, rfl, fun x hx h => by omega⟩, ?_⟩
  rintro i w3 ⟨j, rfl, hj, rfl, hn⟩
  refine bif_dec (fun h1 => ?_) (fun h1 => ⟨_, rfl, rfl, _, rfl, ?_⟩)
  · have hjl : j < l.length := by omega
    refine ⟨⟨by omega, by omega⟩, hr.get hjl fun x _ hc => ⟨_, by have := hc 0 _ rfl; rwa [cell_add0] at this, bif_eq (fun e => ⟨_, rfl, rfl, _, rfl, ?_⟩) (fun e => wr64 (by omega) ⟨⟨j + 1, by omega, by omega, rfl, fun x hk hxj => ?_⟩, by first | omega | (dsimp only; omega)⟩)⟩⟩
    · have : l.any (· == id) = true := List.any_eq_true.2 ⟨_, List.getElem_mem hjl, by simp [e]⟩
      rw [this]
      exact decide_eq_true (by omega)
    · by_cases ee : x = j
      · subst ee; exact fun h => e h.symm
      · exact hn x hk (by omega)
  · have : l.any (· == id) = false := by
      rw [List.any_eq_false]
      intro x hx
      obtain ⟨k, hk, e⟩ := List.getElem_of_mem hx
      rw [← e]
      simpa using hn k hk (by omega)
    rw [this]
    decide
/-- Whether a map has a number. -/
theorem c91 {w : World} {q : Option Addr} {cc : Nat} {l : List Int} (hr : RowsAt w 1 intC q l) (hl : l.length ≤ 1000000) (id : Int) : Rets Try.prog 91 #[.slice q l.length cc, .int .i64 id] w fun v w' => w' = w ∧ v = .bool (l.any (· == id)) := by
  refine ent [_, _] Try.func91 ((vcTry91 _ _ _ _ w _).mpr ?_)
  unfold VCTry91
  refine (c110 hr hl id).mono ?_
  rintro v wx ⟨e, i, rfl, e2⟩
  obtain rfl := e.symm
  exact ⟨_, rfl, (Kp.refl none_ _).keeps0, _, rfl, rfl, by rw [e2]⟩
theorem c93 (m : Option Nat) (w : World) : Rets Try.prog 93 #[.map m] w fun v w' => v = .func (.func 112) #[] #[.pointer (some ⟨w.heap.size, 0, none⟩)] ∧ w'.cell? ⟨w.heap.size, 0, none⟩ = some (.map m) ∧ Kp none_ w w' := by
  refine ent [_] Try.func93 ((vcTry93 _ w _).mpr ?_)
  unfold VCTry93
  exact fun _ => ⟨_, rfl, rfl, (Cel.new w (.map m) 76).cell, (Kp.refl none_ _).alloc1 _⟩
theorem c92 {w : World} {a : Addr} {m : Option Nat} {l : List Ent} (hc : w.cell? a = some (.map m)) (hm : MapO w m l) (hn : NK l) (hl : l.length ≤ 1000000) : Rets Try.prog 92 #[.func (.func 112) #[] #[.pointer (some a)]] w fun v w' =>
    ∃ (q : Option Addr) (c : Nat) (all : List Int), v = .slice q all.length c ∧ all.length = l.length ∧ (∀ id, all.any (· == id) = idIn l id) ∧ RowsAt w' 1 intC q all ∧ Kp none_ w w' := by
  refine ent [_] Try.func92 ((vcTry92 _ w _).mpr ?_)
  unfold VCTry92
  refine (c111 hc hm hn hl).mono ?_
  rintro v w1 ⟨q, c, all, rfl, hp, r, k1⟩
  refine ⟨_, _, _, rfl, k1.keeps0, _, rfl, q, c, all.map Prod.snd, by simp, by simp [hp.length_eq], fun id => ?_, rows_of intC_len (by omega) (by simpa using r), k1⟩
  unfold idIn
  rw [List.any_map, Bool.eq_iff_iff, List.any_eq_true, List.any_eq_true]
  exact ⟨fun ⟨x, h1, h2⟩ => ⟨x, hp.mem_iff.1 h1, h2⟩, fun ⟨x, h1, h2⟩ => ⟨x, hp.mem_iff.2 h1, h2⟩⟩
theorem c46 {w : World} {O : Nat → Prop} {b o : Nat} {S : List Ent} {ws : List Chg} (h : DR w O b o S ws) (hw : ws.length ≤ 1000000) (ha : Asc Prod.fst (lastE S ws)) (hl : (lastE S ws).length ≤ 1000000) (has : Asc Prod.fst S) (hls : S.length ≤ 1000000) (nu : Int) : Rets Try.prog 46 #[ptA b o, .int .i64 nu] w fun v w' =>
    v = .bool (made ws nu || (idIn (lastE S ws) nu || idIn S nu)) ∧ Kp none_ w w' := by
  refine ent [_, _] Try.func46 ((vcTry46 _ _ w _).mpr ?_)
  unfold VCTry46
  refine bif_b (fun hh => by cases hh) (fun _ => ?_)
  simp only [ptr_some, ad3, Nat.add_zero]
  have ka : Kp none_ w (w.alloc (.cells #[.int .i64 nu] 3)) := (Kp.refl none_ _).alloc1 _
  have Ca : Cel (w.alloc (.cells #[.int .i64 nu] 3)) w.heap.size (.int .i64 nu) := Cel.new _ _ _
  generalize w.alloc (.cells #[.int .i64 nu] 3) = W at *
  have hW := h.kp0 ka
  obtain ⟨q, c, e2, r2⟩ := hW.wait
  refine ⟨_, _, _, e2, fun _ => (c89 r2 hw ⟨w.heap.size, 0, none⟩ nu Ca.cell).mono ?_⟩
  rintro v w1 ⟨rfl, k1⟩
  have C1 := Ca.kp k1 id
  have K1 := ka.trans k1
  refine ⟨_, rfl, k1.keeps0, _, C1.cell, C1.frz, bif_b (fun hh _ => ⟨_, rfl, by rw [hh]; rfl, K1.drew⟩) (fun hh => ?_)⟩
  have kd : Kp none_ w1 w1.drew := Kp.drew1
  obtain ⟨m, e0, hm⟩ := (h.kp0 (K1.trans kd)).now
  refine ⟨_, e0, fun _ => (c93 m w1.drew).mono ?_⟩
  rintro v w2 ⟨rfl, f2, k2⟩
  have C2 := (C1.kp kd id).kp k2 id
  refine ⟨_, rfl, k2.keeps0, _, C2.cell, C2.frz, C2.cell, fun _ => (c92 f2 (hm.kp k2 fun _ _ => id) (asc_nk ha) hl).mono ?_⟩
  rintro v w3 ⟨q3, c3, all, rfl, al, aid, r3, k3⟩
  have C3 := C2.kp k3 id
  refine ⟨_, _, _, rfl, k3.keeps0, _, C3.cell, C3.frz, C3.cell, fun _ => (c91 r3 (by omega) nu).mono ?_⟩
  rintro v wx ⟨e, rfl⟩
  obtain rfl := e.symm
  have K3 := ((K1.trans kd).trans k2).trans k3
  rw [aid]
  refine ⟨_, rfl, (Kp.refl none_ _).keeps0, _, C3.cell, C3.frz, bif_b (fun h2 _ => ⟨_, rfl, by rw [hh, h2]; rfl, K3⟩) (fun h2 => ?_)⟩
  obtain ⟨m1, e1, hm1⟩ := (h.kp0 K3).safe
  refine ⟨_, e1, fun _ => (c93 m1 w3).mono ?_⟩
  rintro v w4 ⟨rfl, f4, k4⟩
  have C4 := C3.kp k4 id
  refine ⟨_, rfl, k4.keeps0, _, C4.cell, C4.frz, C4.cell, fun _ => (c92 f4 (hm1.kp k4 fun _ _ => id) (asc_nk has) hls).mono ?_⟩
  rintro v w5 ⟨q5, c5, all5, rfl, al5, aid5, r5, k5⟩
  have C5 := C4.kp k5 id
  refine ⟨_, _, _, rfl, k5.keeps0, _, C5.cell, C5.frz, C5.cell, fun _ => (c91 r5 (by omega) nu).mono ?_⟩
  rintro v wx ⟨e, rfl⟩
  obtain rfl := e.symm
  rw [aid5]
  exact ⟨_, rfl, (Kp.refl none_ _).keeps0, _, C5.cell, C5.frz, fun _ => ⟨_, rfl, by rw [hh, h2]; rfl, (K3.trans k4).trans k5⟩⟩
end Go.Proofs.Ytlgkcbdpaffigaa
