import Derived.Test.YtodgnegbaigdbaaFc
namespace Go.Proofs.Ytodgnegbaigdbaa
open Go Go.SX Go.Proofs
set_option maxRecDepth 100000
set_option linter.unusedVariables false
set_option linter.unusedSimpArgs false
/-- Finder.Find's memory while it ranges over the candidates. -/
structure FB (w : World) (own own1 : Nat → Prop) (B r : Nat) (q : Option Addr) (n : Nat) (b : Int → Int) (at_ : Int) (h : Nat) (a1 a2 : Addr) (N : Nat) (w' : World) (o : Obj) (k nn e : Int) : Prop where
  rec_ : w'.heap[h + 1]? = some o
  cls : o.isCells = false
  mark : w'.heap[h]? = some (.deferred (some []))
  kp : Kp own w w'
  fdr : ∃ m1, Fdr w' own1 B r q n b m1 ∧ (0 ≤ at_ → at_ + 3 ≤ n → at_ < m1)
  e0 : Cel w' N (.pointer (some ⟨B, 0, none⟩))
  e1 : Cel w' (N + 1) (.int .i64 at_)
  e2 : Cel w' (N + 2) (.int .i64 k)
  e3 : Cel w' (N + 3) (.int .i64 nn)
  e4 : Cel w' (N + 4) (.int .i64 e)
  a1c : w'.cell? a1 = some (.pointer (some ⟨B, 0, none⟩))
  a2c : w'.cell? a2 = some (.int .i64 at_)
  hN : w.heap.size ≤ N ∧ N + 4 < h
  own1N : ∀ i, N ≤ i → i ≤ h + 1 → ¬ own1 i
  aN : N + 4 < a1.block ∧ N + 4 < a2.block
  qN : 0 < n → ∀ a, q = some a → a.block < N
section
variable {w w' : World} {own own1 : Nat → Prop} {B r : Nat} {q : Option Addr} {n : Nat} {b : Int → Int} {at_ : Int} {h : Nat} {a1 a2 : Addr} {N : Nat} {o : Obj} {k nn e : Int}
/-- The world changes in one of its own blocks, or not at all. -/
theorem FB.move (f : FB w own own1 B r q n b at_ h a1 a2 N w' o k nn e) {w2 : World} {S : Nat → Prop} (hk : Kp S w' w2) (kp2 : Kp own w w2) (hS : ∀ i, S i → N + 2 ≤ i ∧ i ≤ N + 4) {k' nn' e' : Int}
    (g2 : Cel w2 (N + 2) (.int .i64 k')) (g3 : Cel w2 (N + 3) (.int .i64 nn')) (g4 : Cel w2 (N + 4) (.int .i64 e')) : FB w own own1 B r q n b at_ h a1 a2 N w2 o k' nn' e' := by
  have hh : ∀ i, (i < N + 2 ∨ N + 4 < i) → ¬ S i := fun i hi hs => by have := hS i hs; omega
  have hl := (Array.getElem?_eq_some_iff.1 f.rec_).1
  have hN := f.hN
  obtain ⟨m1, hf, hm⟩ := f.fdr
  refine ⟨(hk.same _ hl (hh _ (by omega))).trans f.rec_, f.cls, (hk.same _ (by omega) (hh _ (by omega))).trans f.mark, kp2, ⟨m1, hf.kp hk (fun i hi ho hs => ?_) (fun h0 a ha => hh _ ?_), hm⟩, f.e0.kp hk (hh _ (by omega)), f.e1.kp hk (hh _ (by omega)), g2, g3, g4, hk.cell f.a1c (hh _ (by have := f.aN; omega)), hk.cell f.a2c (hh _ (by have := f.aN; omega)), f.hN, f.own1N, f.aN, f.qN⟩
  · have := hS i hs
    exact f.own1N i (by omega) (by omega) ho
  · have := f.qN h0 a ha
    omega
theorem FB.same (f : FB w own own1 B r q n b at_ h a1 a2 N w' o k nn e) {w2 : World} (hk : Kp none_ w' w2) : FB w own own1 B r q n b at_ h a1 a2 N w2 o k nn e :=
  f.move hk (f.kp.trans (hk.mono fun _ _ h => h.elim)) (fun _ h => h.elim) (f.e2.kp hk id) (f.e3.kp hk id) (f.e4.kp hk id)
theorem FB.set2 (f : FB w own own1 B r q n b at_ h a1 a2 N w' o k nn e) (k' : Int) : FB w own own1 B r q n b at_ h a1 a2 N (w'.setCell ⟨N + 2, 0, none⟩ (.int .i64 k')) o k' nn e :=
  f.move (Kp.set1 (N + 2) _) (f.kp.setCell _ (.inr (by have := f.hN; dsimp only; omega))) (fun i hi => by have : i = N + 2 := hi; omega) (f.e2.set _) (f.e3.off _ (by omega)) (f.e4.off _ (by omega))
theorem FB.set3 (f : FB w own own1 B r q n b at_ h a1 a2 N w' o k nn e) (k' : Int) : FB w own own1 B r q n b at_ h a1 a2 N (w'.setCell ⟨N + 3, 0, none⟩ (.int .i64 k')) o k k' e :=
  f.move (Kp.set1 (N + 3) _) (f.kp.setCell _ (.inr (by have := f.hN; dsimp only; omega))) (fun i hi => by have : i = N + 3 := hi; omega) (f.e2.off _ (by omega)) (f.e3.set _) (f.e4.off _ (by omega))
theorem FB.set4 (f : FB w own own1 B r q n b at_ h a1 a2 N w' o k nn e) (k' : Int) : FB w own own1 B r q n b at_ h a1 a2 N (w'.setCell ⟨N + 4, 0, none⟩ (.int .i64 k')) o k nn k' :=
  f.move (Kp.set1 (N + 4) _) (f.kp.setCell _ (.inr (by have := f.hN; dsimp only; omega))) (fun i hi => by have : i = N + 4 := hi; omega) (f.e2.off _ (by omega)) (f.e3.off _ (by omega)) (f.e4.set _)
theorem FB.put (f : FB w own own1 B r q n b at_ h a1 a2 N w' o k nn e) {o' : Obj} (ho : o'.isCells = false) : FB w own own1 B r q n b at_ h a1 a2 N (w'.putObj (h + 1) o') o' k nn e := by
  have hN := f.hN
  have hk : Kp (one_ (h + 1)) w' (w'.putObj (h + 1) o') := Kp.putObj1 o' f.rec_ f.cls ho rfl
  have hl := (Array.getElem?_eq_some_iff.1 f.rec_).1
  obtain ⟨m1, hf, hm⟩ := f.fdr
  refine ⟨World.putObj_heap_same hl, ho, (hk.same h (by omega) (by show ¬ h = h + 1; omega)).trans f.mark, f.kp.putObj _ (by omega), ⟨m1, hf.kp hk (fun i hi ho hs => f.own1N i (by have : i = h + 1 := hs; omega) (by have : i = h + 1 := hs; omega) ho) (fun h0 a ha hs => ?_), hm⟩,
    f.e0.kp hk ?_, f.e1.kp hk ?_, f.e2.kp hk ?_, f.e3.kp hk ?_, f.e4.kp hk ?_, hk.cell f.a1c (cell_obj_ne f.rec_ f.cls f.a1c), hk.cell f.a2c (cell_obj_ne f.rec_ f.cls f.a2c), f.hN, f.own1N, f.aN, f.qN⟩
  · have := f.qN h0 a ha
    have : a.block = h + 1 := hs
    omega
  all_goals (intro hs; have := (show _ = h + 1 from hs); omega)
theorem FB.known (f : FB w own own1 B r q n b at_ h a1 a2 N w' o k nn e) : Known w' [(N, [(0, .pointer (some ⟨B, 0, none⟩))]), (N + 1, [(0, .int .i64 at_)]), (N + 2, [(0, .int .i64 k)]), (N + 3, [(0, .int .i64 nn)]), (N + 4, [(0, .int .i64 e)])] :=
  ⟨⟨f.e0.lt, ⟨f.e0.cell, f.e0.frz⟩, trivial⟩, ⟨f.e1.lt, ⟨f.e1.cell, f.e1.frz⟩, trivial⟩, ⟨f.e2.lt, ⟨f.e2.cell, f.e2.frz⟩, trivial⟩, ⟨f.e3.lt, ⟨f.e3.cell, f.e3.frz⟩, trivial⟩, ⟨f.e4.lt, ⟨f.e4.cell, f.e4.frz⟩, trivial⟩, trivial⟩
end
end Go.Proofs.Ytodgnegbaigdbaa
