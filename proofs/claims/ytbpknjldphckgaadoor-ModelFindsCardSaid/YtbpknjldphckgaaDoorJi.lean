/- Model: what may be told. -/
import Derived.Test.YtbpknjldphckgaaDoorJh
import Derived.Test.YtbpknjldphckgaaDoorVmc
namespace Go.Proofs.YtbpknjldphckgaaDoor
open Go Go.SX Go.Proofs Go.Lib
set_option maxRecDepth 100000
set_option linter.unusedVariables false
set_option linter.unusedSimpArgs false
/-- A step that is asked for. -/
structure Ox where
  k : Int
  s : List UInt8
  d : List UInt8
  dq : Option Addr
  dc : Nat
  N : Int
  kq : Option Addr
  kn : Nat
  kc : Nat
  nm : Int
  fi : Int
abbrev Ox.stp (o : Ox) : Stp := ⟨o.k, o.s, o.d⟩
def opV (o : Ox) : Value := .agg #[.int .i64 o.k, .string (ba o.s), .slice o.dq o.d.length o.dc, .int .i64 o.N, .slice o.kq o.kn o.kc, .int .i64 o.nm, .int .u8 o.fi]
def opC (o : Ox) : Array Value := #[.int .i64 o.k, .string (ba o.s), .slice o.dq o.d.length o.dc, .int .i64 o.N, .slice o.kq o.kn o.kc, .int .i64 o.nm, .int .u8 o.fi]
/-- An answer. -/
structure Ax where
  e : Int
  d : List UInt8
  aq : Option Addr
  ac : Nat
  z : Int
  n : List (List UInt8)
  nq : Option Addr
  nc : Nat
  L : List Fil
  lq : Option Addr
  lc : Nat
  re : Bool
  po : Bool
abbrev Ax.ans (a : Ax) : Ans := ⟨a.e, a.d, a.z, a.n, a.L, a.re, a.po⟩
def anV (a : Ax) : Value := .agg #[.int .i64 a.e, .slice a.aq a.d.length a.ac, .int .i64 a.z, .slice a.nq a.n.length a.nc, .slice a.lq a.L.length a.lc, .bool a.re, .bool a.po]
def anC (a : Ax) : Array Value := #[.int .i64 a.e, .slice a.aq a.d.length a.ac, .int .i64 a.z, .slice a.nq a.n.length a.nc, .slice a.lq a.L.length a.lc, .bool a.re, .bool a.po]
structure OpAt (w : World) (o : Ox) : Prop where
  dat : BytesAt w o.dq (ba o.d)
  le : o.d.length ≤ o.dc ∧ o.dc ≤ maxLen
theorem OpAt.kp0 {w w' : World} {o : Ox} (h : OpAt w o) (k : Kp none_ w w') : OpAt w' o := ⟨h.dat.kp0 k, h.le⟩
structure AnAt (w : World) (a : Ax) : Prop where
  dat : BytesAt w a.aq (ba a.d)
  le : a.d.length ≤ a.ac ∧ a.ac ≤ maxLen
  nam : StrsAt w a.nq a.n
  fil : FRd w a.lq a.L.length a.L
theorem AnAt.kp0 {w w' : World} {a : Ax} (h : AnAt w a) (k : Kp none_ w w') : AnAt w' a := ⟨h.dat.kp0 k, h.le, h.nam.kp0 k, h.fil.kp0 k⟩
theorem opKp (w : World) (o : Ox) : Kp none_ w (w.alloc (.cells (opC o) 124)) ∧ w.heap.size < (w.alloc (.cells (opC o) 124)).heap.size := ⟨(Kp.refl none_ w).alloc1 _, by rw [alloc_size]; omega⟩
theorem opEq (o : Ox) : (#[.int .i64 o.k, .string (ba o.s), .slice o.dq o.d.length o.dc, .int .i64 o.N, .slice o.kq o.kn o.kc, .int .i64 o.nm, .int .u8 o.fi] : Array Value) = opC o := rfl
theorem anEq (a : Ax) : (#[.int .i64 a.e, .slice a.aq a.d.length a.ac, .int .i64 a.z, .slice a.nq a.n.length a.nc, .slice a.lq a.L.length a.lc, .bool a.re, .bool a.po] : Array Value) = anC a := rfl
/-- The end of a way: a number that was told is told on. -/
theorem leafI {w W : World} {X : FuncId} {args : Array Value} {E E' : Int} {bs : List Nat} {P : Prop} {Q : World → Prop} (hC : Rets Tryd.prog X args W fun v w' => v = .int .i64 E ∧ Kp none_ W w') (k0 : Kp none_ w W) (hbs : ∀ b ∈ bs, b < W.heap.size) (hE : E = E') :
    P → Rets Tryd.prog X args W fun v w' => ∃ i : Int, v = .int .i64 i ∧ Keeps W w' bs ∧ (Q w' → ∃ v, Ending.returned (.int .i64 i) = Ending.returned v ∧ v = .int .i64 E' ∧ Kp none_ w w') := fun _ => hC.mono fun v w' ⟨h1, h2⟩ => ⟨E, h1, h2.keeps fun b hb => ⟨hbs b hb, id⟩, fun _ => ⟨_, rfl, by rw [hE], k0.trans h2⟩⟩
theorem leafB {w W : World} {X : FuncId} {args : Array Value} {E E' : Bool} {bs : List Nat} {P : Prop} {Q : World → Prop} (hC : Rets Tryd.prog X args W fun v w' => v = .bool E ∧ Kp none_ W w') (k0 : Kp none_ w W) (hbs : ∀ b ∈ bs, b < W.heap.size) (hE : E = E') :
    P → Rets Tryd.prog X args W fun v w' => ∃ i : Bool, v = .bool i ∧ Keeps W w' bs ∧ (Q w' → ∃ v, Ending.returned (.bool i) = Ending.returned v ∧ v = .bool E' ∧ Kp none_ w w') := fun _ => hC.mono fun v w' ⟨h1, h2⟩ => ⟨E, h1, h2.keeps fun b hb => ⟨hbs b hb, id⟩, fun _ => ⟨_, rfl, by rw [hE], k0.trans h2⟩⟩
theorem c206k {w : World} {b : Nat} {p : MM} (h : MRd w b p) : Rets Tryd.prog 206 #[pt b] w fun v w' => v = .int .i64 (mutE p) ∧ Kp none_ w w' := (c206 h).mono fun v w' ⟨h1, h2⟩ => ⟨h1, by rw [h2]; exact Kp.refl _ _⟩
theorem c204k {w : World} {b : Nat} {p : MM} (h : MRd w b p) (ok : OkP p) (x : Int) : Rets Tryd.prog 204 #[pt b, .int .i64 x] w fun v w' => v = .int .i64 (if p.streaming = false then 15 else if x > 65536 - p.data.length then 5 else 0) ∧ Kp none_ w w' := (c204 h ok x).mono fun v w' ⟨h1, h2⟩ => ⟨h1, by rw [h2]; exact Kp.refl _ _⟩
theorem ins3 {p : MM} {o : Stp} (h : o.kind = 3) : insE p o = putEr p o.name o.data.length := by unfold insE; rw [if_pos h]
theorem ins4 {p : MM} {o : Stp} (h : o.kind = 4) : insE p o = putEr p o.name 0 := by unfold insE; rw [if_neg (by omega), if_pos h]
theorem ins5 {p : MM} {o : Stp} (h : o.kind = 5) : insE p o = (if p.streaming = false then 15 else if (o.data.length : Int) > 65536 - p.data.length then 5 else 0) := by
  unfold insE
  rw [if_neg (by omega), if_neg (by omega), if_pos (.inl h)]
  simp only [h, true_and]
theorem ins67 {p : MM} {o : Stp} (ok : OkP p) (h : o.kind = 6 ∨ o.kind = 7) : insE p o = (if p.streaming = false then 15 else if (0 : Int) > 65536 - p.data.length then 5 else 0) := by
  unfold insE
  rw [if_neg (by omega), if_neg (by omega), if_pos (.inr h)]
  cases hs : p.streaming with
  | false => rfl
  | true =>
    have := ok.str hs
    rw [if_neg (by decide), if_neg (by omega), if_neg (by decide), if_neg (by omega)]
theorem ins89 {p : MM} {o : Stp} (h : o.kind = 8 ∨ o.kind = 9) : insE p o = (if hasF p.now o.name = false then 7 else 0) := by
  unfold insE
  rw [if_neg (by omega), if_neg (by omega), if_neg (by omega), if_neg (by omega), if_neg (by omega), if_neg (by omega)]
  have : o.kind < 12 := by omega
  simp only [this, true_and]
theorem ins_mut {p : MM} {o : Stp} (h : o.kind = 12 ∨ o.kind = 13 ∨ o.kind = 14) : insE p o = mutE p := by
  unfold insE mutE
  rw [if_neg (by omega), if_neg (by omega), if_neg (by omega), if_neg (by omega)]
  have h1 : o.kind > 10 := by omega
  have h2 : ¬ o.kind < 12 := by omega
  simp only [h1, h2, true_and, false_and, if_false]
theorem ins11 {p : MM} {o : Stp} (h : o.kind = 11) : insE p o = if mutE p = 0 then (if hasF p.now o.name = false then 7 else 0) else mutE p := by
  unfold insE mutE
  rw [if_neg (by omega), if_neg (by omega), if_neg (by omega), if_neg (by omega)]
  have h1 : o.kind > 10 := by omega
  have h2 : o.kind < 12 := by omega
  simp only [h1, h2, true_and]
  split
  · simp
  · split
    · simp
    · simp
theorem ins0 {p : MM} {o : Stp} (h : o.kind = 10) : insE p o = 0 := by
  unfold insE
  rw [if_neg (by omega), if_neg (by omega), if_neg (by omega), if_pos h]
theorem c191 {w : World} (hml : ML w) {b : Nat} {p : MM} (h : MRd w b p) (ok : OkP p) (o : Ox) (hk : 3 ≤ o.k ∧ o.k ≤ 14) : Rets Tryd.prog 191 #[pt b, opV o] w fun v w' => v = .int .i64 (insE p o.stp) ∧ Kp none_ w w' := by
  refine ent [_, _] Tryd.func191 ((vcTryd191 _ _ _ _ _ _ _ _ _ _ _ _ w _).mpr ?_)
  unfold VCTryd191
  obtain ⟨k0, z0⟩ := opKp w o
  rw [opEq]
  generalize w.alloc (.cells (opC o) 124) = W at *
  have h0 := h.kp0 k0
  have hb : ∀ b ∈ [w.heap.size], b < W.heap.size := fun b hb => by
    rw [List.mem_singleton] at hb
    subst hb
    exact z0
  have e1 : bytesL (ba o.s) = o.s := bytesL_ba _
  have H203 := fun z => c203 (hml.kp0 k0) h0 ok (ba o.s) z
  have H205 := fun {w1} (k1 : Kp none_ W w1) => c205 (h0.kp0 k1) ok (ba o.s)
  simp only [e1] at H203 H205
  have H11 : o.k = 11 → ∀ {P : Prop} {Q Q1 Q2 Q3 : World → Prop}, P → Rets Tryd.prog 206 #[pt b] W fun v w' => ∃ i : Int, v = .int .i64 i ∧ Keeps W w' [w.heap.size] ∧ bif i != 0 then (Q w' → ∃ v, Ending.returned (.int .i64 i) = Ending.returned v ∧ v = .int .i64 (insE p o.stp) ∧ Kp none_ w w')
      else (Q1 w' → Rets Tryd.prog 205 #[pt b, .string (ba o.s)] w' fun v w2 => ∃ i : Int, v = .int .i64 i ∧ Keeps w' w2 [w.heap.size] ∧ (Q2 w2 → ∃ v, Ending.returned (.int .i64 i) = Ending.returned v ∧ v = .int .i64 (insE p o.stp) ∧ Kp none_ w w2)) := fun hk P Q Q1 Q2 Q3 _ => by
    refine (c206k h0).mono ?_
    rintro v w1 ⟨rfl, k1⟩
    rw [ins11 hk]
    refine ⟨_, rfl, k1.keeps fun b hbb => ⟨hb b hbb, id⟩, bif_ne (fun hne _ => ⟨_, rfl, by rw [if_neg hne], k0.trans k1⟩) (fun h0 => leafI (H205 k1) (k0.trans k1) (fun b hbb => Nat.lt_of_lt_of_le (hb b hbb) k1.size) (by rw [if_pos h0]))⟩
  repeat' first
    | refine bif_eq (fun _ => ?_) (fun _ => ?_)
  all_goals first
    | (exfalso; omega)
    | exact leafI (H203 _) k0 hb (ins3 (o := o.stp) (by show o.k = 3; omega)).symm
    | exact leafI (H203 _) k0 hb (ins4 (o := o.stp) (by show o.k = 4; omega)).symm
    | exact leafI (c204k h0 ok _) k0 hb (ins5 (o := o.stp) (by show o.k = 5; omega)).symm
    | exact leafI (c204k h0 ok _) k0 hb (ins67 (o := o.stp) ok (by show o.k = 6 ∨ o.k = 7; omega)).symm
    | exact leafI (H205 (Kp.refl _ _)) k0 hb (ins89 (o := o.stp) (by show o.k = 8 ∨ o.k = 9; omega)).symm
    | exact leafI (c206k h0) k0 hb (ins_mut (o := o.stp) (by show o.k = 12 ∨ o.k = 13 ∨ o.k = 14; omega)).symm
    | exact H11 (by omega) (Q3 := fun _ => True)
    | exact fun _ => ⟨_, rfl, by rw [ins0 (o := o.stp) (by show o.k = 10; omega)], k0⟩
end Go.Proofs.YtbpknjldphckgaaDoor
