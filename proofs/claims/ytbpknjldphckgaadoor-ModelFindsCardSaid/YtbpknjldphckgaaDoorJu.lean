/- Model: a model that is gone on with, step by step. -/
import Derived.Test.YtbpknjldphckgaaDoorJq
import Derived.Test.YtbpknjldphckgaaDoorVmg
namespace Go.Proofs.YtbpknjldphckgaaDoor
open Go Go.SX Go.Proofs Go.Lib
set_option maxRecDepth 100000
set_option linter.unusedVariables false
set_option linter.unusedSimpArgs false
/-- A model of one's own, laid behind W, in w: it is p; none of its blocks is in F. -/
structure Mo (W w : World) (F : List Nat) (b : Nat) (p : MM) : Prop where
  md : ∃ D cm cn cd, MD w D b p cm cn cd ∧ ∀ i, D i ≠ 0 → W.heap.size ≤ i ∧ i < w.heap.size ∧ i ∉ F
  kp : Kp none_ W w
  lt : ∀ i ∈ F, i < w.heap.size
variable {W w : World} {F : List Nat} {b : Nat} {p : MM}
/-- What lies in a model's way: nothing below W, nothing of F. -/
abbrev away (W : World) (F : List Nat) : Nat → Prop := fun i => W.heap.size ≤ i ∧ i ∉ F
theorem Mo.rd (m : Mo W w F b p) : MRd w b p := by
  obtain ⟨D, cm, cn, cd, h, _⟩ := m.md
  exact h.rd
theorem Mo.more (m : Mo W w F b p) {w' : World} (k : Kp none_ w w') {F' : List Nat} (hF : ∀ i ∈ F', i < w'.heap.size ∧ (i ∈ F ∨ i < W.heap.size ∨ w.heap.size ≤ i)) : Mo W w' F' b p := by
  obtain ⟨D, cm, cn, cd, h, hD⟩ := m.md
  have := k.size
  refine ⟨⟨D, cm, cn, cd, h.kp0 k, fun i hi => ?_⟩, m.kp.trans k, fun i hi => (hF i hi).1⟩
  obtain ⟨h1, h2, h3⟩ := hD i hi
  exact ⟨h1, by omega, fun hf => by rcases (hF i hf).2 with h | h | h; exact h3 h; omega; omega⟩
theorem Mo.kp0 (m : Mo W w F b p) {w' : World} (k : Kp none_ w w') : Mo W w' F b p := m.more k fun i hi => ⟨Nat.lt_of_lt_of_le (m.lt i hi) k.size, .inl hi⟩
/-- A step. -/
theorem Mo.step (hml : ML W) (m : Mo W w F b p) (ok : OkP p) (o : Ox) (a : Ax) (ho : OpAt w o) (hol : o.d.length ≤ 1000000) (hos : o.s.length ≤ 1000000) (han : AnAt w a) (hn : a.n.length ≤ 1000000) (ha : FIn w (fun i => i < W.heap.size ∨ i ∈ F) a.lq a.L.length a.L) (hal : bigL a.L) {T : Bool} {p' : MM} (h1 : mayM p o.stp a.ans = T) (h2 : (if T = true then stepP p o.stp a.ans else p) = p') :
    Rets Tryd.prog 94 #[pt b, opV o, anV a] w fun v w' => v = .bool T ∧ Mo W w' F b p' ∧ Kp (away W F) w w' := by
  obtain ⟨D, cm, cn, cd, h, hD⟩ := m.md
  refine (c94 (hml.kp0 m.kp) h (fun i hi => (hD i hi).2.1) ok o a ho hol hos han hn (ha.mono fun i hl hi => ?_) hal).mono ?_
  · show D i = 0
    refine Classical.byContradiction fun hd => ?_
    obtain ⟨g1, g2, g3⟩ := hD i hd
    rcases hi with hi | hi
    · omega
    · exact g3 hi
  · rw [h1, h2]
    rintro v w' ⟨rfl, D', cm', cn', cd', h', hD', k⟩
    have hz := k.size
    have kk : Kp (away W F) w w' := k.mono fun i _ hi => ⟨(hD i hi).1, (hD i hi).2.2⟩
    refine ⟨rfl, ⟨⟨D', cm', cn', cd', h', fun i hi => ?_⟩, ?_, fun i hi => Nat.lt_of_lt_of_le (m.lt i hi) hz⟩, kk⟩
    · have hwz := m.kp.size
      obtain ⟨g1, g2⟩ := hD' i hi
      rcases g1 with g1 | g1
      · obtain ⟨f1, f2, f3⟩ := hD i g1
        exact ⟨f1, by omega, f3⟩
      · exact ⟨by omega, g2, fun hf => by have := m.lt i hf; omega⟩
    · exact m.kp.then kk fun i hi hh => by have := hh.1; omega
theorem away_keeps {w' : World} (m : Mo W w F b p) (k : Kp (away W F) w w') {bs : List Nat} (hb : ∀ i ∈ bs, i < W.heap.size ∨ i ∈ F) : Keeps w w' bs := k.keeps fun i hi => by
  rcases hb i hi with h | h
  · exact ⟨Nat.lt_of_lt_of_le h m.kp.size, fun hh => by have := hh.1; omega⟩
  · exact ⟨m.lt i h, fun hh => hh.2 h⟩
/-- Steps with what is simple: a kind, a name, data; an error. -/
def oK (k : Int) (s d : List UInt8) (q : Option Addr) (c : Nat) : Ox := ⟨k, s, d, q, c, 0, none, 0, 0, 0, 0⟩
theorem strs0 (w : World) : StrsAt w none [] := fun i hi => absurd hi (by simp)
/-- What a step and its answer need. -/
structure Sm (w : World) (Q : Nat → Prop) (o : Ox) (a : Ax) : Prop where
  op : OpAt w o
  ol : o.d.length ≤ 1000000
  os : o.s.length ≤ 1000000
  an : AnAt w a
  nn : a.n.length ≤ 1000000
  fi : FIn w Q a.lq a.L.length a.L
  bi : bigL a.L
theorem Sm.kp0 {w w' : World} {Q : Nat → Prop} {o : Ox} {a : Ax} (h : Sm w Q o a) (k : Kp none_ w w') : Sm w' Q o a := ⟨h.op.kp0 k, h.ol, h.os, h.an.kp0 k, h.nn, h.fi.kp0 k, h.bi⟩
/-- Neither data nor files. -/
theorem sm0 (w : World) (Q : Nat → Prop) (k : Int) {s : List UInt8} (hs : s.length ≤ 1000000) (e z : Int) (re po : Bool) : Sm w Q (oK k s [] none 0) ⟨e, [], none, 0, z, [], none, 0, [], none, 0, re, po⟩ :=
  ⟨⟨bytes0 w, Nat.le_refl _, Nat.zero_le _⟩, Nat.zero_le _, hs, ⟨bytes0 w, ⟨Nat.le_refl _, Nat.zero_le _⟩, strs0 w, (fin0 w (fun _ => True)).rd⟩, Nat.zero_le _, fin0 _ _, bigNil⟩
/-- A step with data. -/
theorem smD {w : World} {Q : Nat → Prop} {k : Int} {s d : List UInt8} (hs : s.length ≤ 1000000) {q : Option Addr} {c : Nat} (hd : BytesAt w q (ba d)) (hc : d.length ≤ c ∧ c ≤ maxLen) (hl : d.length ≤ 1000000) (e z : Int) (re po : Bool) : Sm w Q (oK k s d q c) ⟨e, [], none, 0, z, [], none, 0, [], none, 0, re, po⟩ :=
  ⟨⟨hd, hc⟩, hl, hs, ⟨bytes0 w, ⟨Nat.le_refl _, Nat.zero_le _⟩, strs0 w, (fin0 w (fun _ => True)).rd⟩, Nat.zero_le _, fin0 _ _, bigNil⟩
/-- An answer with data. -/
theorem smA {w : World} {Q : Nat → Prop} {k : Int} {s d : List UInt8} (hs : s.length ≤ 1000000) {q : Option Addr} {c : Nat} (hd : BytesAt w q (ba d)) (hc : d.length ≤ c ∧ c ≤ maxLen) (e z : Int) (re po : Bool) : Sm w Q (oK k s [] none 0) ⟨e, d, q, c, z, [], none, 0, [], none, 0, re, po⟩ :=
  ⟨⟨bytes0 w, Nat.le_refl _, Nat.zero_le _⟩, Nat.zero_le _, hs, ⟨hd, hc, strs0 w, (fin0 w (fun _ => True)).rd⟩, Nat.zero_le _, fin0 _ _, bigNil⟩
/-- An answer with names. -/
theorem smN {w : World} {Q : Nat → Prop} {k : Int} {s : List UInt8} (hs : s.length ≤ 1000000) {n : List (List UInt8)} {q : Option Addr} (c : Nat) (hn : StrsAt w q n) (hl : n.length ≤ 1000000) (e z : Int) (re po : Bool) : Sm w Q (oK k s [] none 0) ⟨e, [], none, 0, z, n, q, c, [], none, 0, re, po⟩ :=
  ⟨⟨bytes0 w, Nat.le_refl _, Nat.zero_le _⟩, Nat.zero_le _, hs, ⟨bytes0 w, ⟨Nat.le_refl _, Nat.zero_le _⟩, hn, (fin0 w (fun _ => True)).rd⟩, hl, fin0 _ _, bigNil⟩
/-- An answer with files. -/
theorem smF {w : World} {Q : Nat → Prop} {k : Int} {s : List UInt8} (hs : s.length ≤ 1000000) {L : List Fil} {q : Option Addr} (c : Nat) (hn : FIn w Q q L.length L) (hl : bigL L) (e z : Int) (re po : Bool) : Sm w Q (oK k s [] none 0) ⟨e, [], none, 0, z, [], none, 0, L, q, c, re, po⟩ :=
  ⟨⟨bytes0 w, Nat.le_refl _, Nat.zero_le _⟩, Nat.zero_le _, hs, ⟨bytes0 w, ⟨Nat.le_refl _, Nat.zero_le _⟩, strs0 w, hn.rd⟩, Nat.zero_le _, hn, hl⟩
/-- Files and data that may be read on a step's way. -/
abbrev near (W : World) (F : List Nat) : Nat → Prop := fun i => i < W.heap.size ∨ i ∈ F
theorem Mo.stepT (hml : ML W) (m : Mo W w F b p) (ok : OkP p) {o : Ox} {a : Ax} (h : Sm w (near W F) o a) {p' : MM} (h1 : mayM p o.stp a.ans = true) (h2 : stepP p o.stp a.ans = p') :
    Rets Tryd.prog 94 #[pt b, opV o, anV a] w fun v w' => v = .bool true ∧ Mo W w' F b p' ∧ Kp (away W F) w w' := m.step hml ok o a h.op h.ol h.os h.an h.nn h.fi h.bi h1 (by rw [if_pos rfl]; exact h2)
theorem Mo.stepF (hml : ML W) (m : Mo W w F b p) (ok : OkP p) {o : Ox} {a : Ax} (h : Sm w (near W F) o a) (h1 : mayM p o.stp a.ans = false) :
    Rets Tryd.prog 94 #[pt b, opV o, anV a] w fun v w' => v = .bool false ∧ Mo W w' F b p ∧ Kp (away W F) w w' := m.step hml ok o a h.op h.ol h.os h.an h.nn h.fi h.bi h1 (by rw [if_neg (by decide)])
theorem Mo.stepG (hml : ML W) (m : Mo W w F b p) (ok : OkP p) {o : Ox} {a : Ax} (h : Sm w (near W F) o a) {T : Bool} (h1 : mayM p o.stp a.ans = T) (h2 : stepP p o.stp a.ans = p) :
    Rets Tryd.prog 94 #[pt b, opV o, anV a] w fun v w' => v = .bool T ∧ Mo W w' F b p ∧ Kp (away W F) w w' := m.step hml ok o a h.op h.ol h.os h.an h.nn h.fi h.bi h1 (by rw [h2]; split <;> rfl)
/-! ### What the steps are answered -/
/-- An archive that is open, and safe as it was made. -/
def opnM (nw : List Fil) (nm dt : List UInt8) : MM := ⟨[(true, [])], true, false, false, nw, nm, dt⟩
def strM (nm dt : List UInt8) : MM := ⟨[(true, [])], true, false, true, [], nm, dt⟩
def madeM : MM := ⟨[(true, [])], false, false, false, [], [], []⟩
section
variable {s d e nm dt : List UInt8}
theorem has_one : hasF [(s, d)] s = true := by simp [has]
theorem find_one : findD [(s, d)] s = d := by simp [findD]
theorem with_nil : withK Prod.fst ([] : List Fil) s (s, d) = [(s, d)] := by simp [withK, putGo]
theorem without_one : withoutK Prod.fst [(s, d)] s = [] := by simp [withoutK]
theorem may_make : mayM (newM) ⟨1, [], []⟩ ⟨0, [], 0, [], [], false, false⟩ = true := by simp [mayM, alikeA, plainM, firstM, secondM, poisonM, toldM, insE, putEr, openM, callsM, someM, canM, opnM, strM, madeM, newM, has_one, find_one, underF, inF, hasF, has, findD]
theorem st_make : stepP (newM) ⟨1, [], []⟩ ⟨0, [], 0, [], [], false, false⟩ = madeM := by simp [stepP, endP, midP, doneP, refusedP, openM, opnM, strM, madeM, newM, with_nil, without_one]
theorem may_open : mayM (madeM) ⟨2, [], []⟩ ⟨0, [], 0, [], [], false, false⟩ = true := by simp [mayM, alikeA, plainM, firstM, secondM, poisonM, toldM, insE, putEr, openM, callsM, someM, canM, opnM, strM, madeM, newM, has_one, find_one, underF, inF, hasF, has, findD]
theorem st_open : stepP (madeM) ⟨2, [], []⟩ ⟨0, [], 0, [], [], false, false⟩ = opnM [] [] [] := by simp [stepP, endP, midP, doneP, refusedP, openM, opnM, strM, madeM, newM, with_nil, without_one]
theorem may_put (hs : okName s = true) (hd : (d.length : Int) ≤ 65536) : mayM (opnM [] nm dt) ⟨3, s, d⟩ ⟨0, [], 0, [], [], false, false⟩ = true := by simp [mayM, alikeA, plainM, firstM, secondM, poisonM, toldM, insE, putEr, openM, callsM, someM, canM, opnM, strM, madeM, newM, has_one, find_one, underF, inF, hasF, has, findD, hs, hd]
theorem st_put : stepP (opnM [] nm dt) ⟨3, s, d⟩ ⟨0, [], 0, [], [], false, false⟩ = opnM [(s, d)] nm dt := by simp [stepP, endP, midP, doneP, refusedP, openM, opnM, strM, madeM, newM, with_nil, without_one]
theorem may_get : mayM (opnM [(s, d)] nm dt) ⟨8, s, []⟩ ⟨0, e, 0, [], [], false, false⟩ = (e == d) := by simp [mayM, alikeA, plainM, firstM, secondM, poisonM, toldM, insE, putEr, openM, callsM, someM, canM, opnM, strM, madeM, newM, has_one, find_one, underF, inF, hasF, has, findD]
theorem st_get : stepP (opnM [(s, d)] nm dt) ⟨8, s, []⟩ ⟨0, e, 0, [], [], false, false⟩ = opnM [(s, d)] nm dt := by simp [stepP, endP, midP, doneP, refusedP, openM, opnM, strM, madeM, newM, with_nil, without_one]
theorem may_own : mayM (opnM [(s, d)] nm dt) ⟨8, s, []⟩ ⟨0, d, 0, [], [], false, false⟩ = true := by rw [may_get]; simp
theorem may_get7 : mayM (opnM [(s, d)] nm dt) ⟨8, s, []⟩ ⟨7, [], 0, [], [], false, false⟩ = false := by simp [mayM, alikeA, plainM, firstM, secondM, poisonM, toldM, insE, putEr, openM, callsM, someM, canM, opnM, strM, madeM, newM, has_one, find_one, underF, inF, hasF, has, findD]
theorem may_stat : mayM (opnM [(s, d)] nm dt) ⟨9, s, []⟩ ⟨0, [], (d.length : Int), [], [], false, false⟩ = true := by simp [mayM, alikeA, plainM, firstM, secondM, poisonM, toldM, insE, putEr, openM, callsM, someM, canM, opnM, strM, madeM, newM, has_one, find_one, underF, inF, hasF, has, findD]
theorem st_stat : stepP (opnM [(s, d)] nm dt) ⟨9, s, []⟩ ⟨0, [], (d.length : Int), [], [], false, false⟩ = opnM [(s, d)] nm dt := by simp [stepP, endP, midP, doneP, refusedP, openM, opnM, strM, madeM, newM, with_nil, without_one]
theorem may_list (hs : okName s = true) : mayM (opnM [(s, d)] nm dt) ⟨10, [], []⟩ ⟨0, [], 0, [s], [], false, false⟩ = true := by simp [mayM, alikeA, plainM, firstM, secondM, poisonM, toldM, insE, putEr, openM, callsM, someM, canM, opnM, strM, madeM, newM, has_one, find_one, underF, inF, hasF, has, findD, hs]
theorem st_list : stepP (opnM [(s, d)] nm dt) ⟨10, [], []⟩ ⟨0, [], 0, [s], [], false, false⟩ = opnM [(s, d)] nm dt := by simp [stepP, endP, midP, doneP, refusedP, openM, opnM, strM, madeM, newM, with_nil, without_one]
theorem may_list0 (hs : okName s = true) : mayM (opnM [(s, d)] nm dt) ⟨10, [], []⟩ ⟨0, [], 0, [], [], false, false⟩ = false := by simp [mayM, alikeA, plainM, firstM, secondM, poisonM, toldM, insE, putEr, openM, callsM, someM, canM, opnM, strM, madeM, newM, has_one, find_one, underF, inF, hasF, has, findD, hs]
theorem may_del : mayM (opnM [(s, d)] nm dt) ⟨11, s, []⟩ ⟨0, [], 0, [], [], false, false⟩ = true := by simp [mayM, alikeA, plainM, firstM, secondM, poisonM, toldM, insE, putEr, openM, callsM, someM, canM, opnM, strM, madeM, newM, has_one, find_one, underF, inF, hasF, has, findD]
theorem st_del : stepP (opnM [(s, d)] nm dt) ⟨11, s, []⟩ ⟨0, [], 0, [], [], false, false⟩ = opnM [] nm dt := by simp [stepP, endP, midP, doneP, refusedP, openM, opnM, strM, madeM, newM, with_nil, without_one]
theorem may_gone : mayM (opnM [] nm dt) ⟨8, s, []⟩ ⟨7, [], 0, [], [], false, false⟩ = true := by simp [mayM, alikeA, plainM, firstM, secondM, poisonM, toldM, insE, putEr, openM, callsM, someM, canM, opnM, strM, madeM, newM, has_one, find_one, underF, inF, hasF, has, findD]
theorem st_gone : stepP (opnM [] nm dt) ⟨8, s, []⟩ ⟨7, [], 0, [], [], false, false⟩ = opnM [] nm dt := by simp [stepP, endP, midP, doneP, refusedP, openM, opnM, strM, madeM, newM, with_nil, without_one]
theorem may_none : mayM (opnM [] nm dt) ⟨10, [], []⟩ ⟨0, [], 0, [], [], false, false⟩ = true := by simp [mayM, alikeA, plainM, firstM, secondM, poisonM, toldM, insE, putEr, openM, callsM, someM, canM, opnM, strM, madeM, newM, has_one, find_one, underF, inF, hasF, has, findD]
theorem st_none : stepP (opnM [] nm dt) ⟨10, [], []⟩ ⟨0, [], 0, [], [], false, false⟩ = opnM [] nm dt := by simp [stepP, endP, midP, doneP, refusedP, openM, opnM, strM, madeM, newM, with_nil, without_one]
theorem may_begin (hs : okName s = true) : mayM (opnM [] nm dt) ⟨4, s, []⟩ ⟨0, [], 0, [], [], false, false⟩ = true := by simp [mayM, alikeA, plainM, firstM, secondM, poisonM, toldM, insE, putEr, openM, callsM, someM, canM, opnM, strM, madeM, newM, has_one, find_one, underF, inF, hasF, has, findD, hs]
theorem st_begin : stepP (opnM [] nm dt) ⟨4, s, []⟩ ⟨0, [], 0, [], [], false, false⟩ = strM s [] := by simp [stepP, endP, midP, doneP, refusedP, openM, opnM, strM, madeM, newM, with_nil, without_one]
theorem may_sget : mayM (strM nm dt) ⟨8, s, []⟩ ⟨7, [], 0, [], [], false, false⟩ = true := by simp [mayM, alikeA, plainM, firstM, secondM, poisonM, toldM, insE, putEr, openM, callsM, someM, canM, opnM, strM, madeM, newM, has_one, find_one, underF, inF, hasF, has, findD]
theorem st_sget : stepP (strM nm dt) ⟨8, s, []⟩ ⟨7, [], 0, [], [], false, false⟩ = strM nm dt := by simp [stepP, endP, midP, doneP, refusedP, openM, opnM, strM, madeM, newM, with_nil, without_one]
theorem may_sput : mayM (strM nm dt) ⟨3, s, []⟩ ⟨8, [], 0, [], [], false, false⟩ = true := by simp [mayM, alikeA, plainM, firstM, secondM, poisonM, toldM, insE, putEr, openM, callsM, someM, canM, opnM, strM, madeM, newM, has_one, find_one, underF, inF, hasF, has, findD]
theorem st_sput : stepP (strM nm dt) ⟨3, s, []⟩ ⟨8, [], 0, [], [], false, false⟩ = strM nm dt := by simp [stepP, endP, midP, doneP, refusedP, openM, opnM, strM, madeM, newM, with_nil, without_one]
theorem may_write (hd : (d.length : Int) ≤ 65536) : mayM (strM nm []) ⟨5, [], d⟩ ⟨0, [], 0, [], [], false, false⟩ = true := by simp [mayM, alikeA, plainM, firstM, secondM, poisonM, toldM, insE, putEr, openM, callsM, someM, canM, opnM, strM, madeM, newM, has_one, find_one, underF, inF, hasF, has, findD, hd]
theorem st_write : stepP (strM nm []) ⟨5, [], d⟩ ⟨0, [], 0, [], [], false, false⟩ = strM nm d := by simp [stepP, endP, midP, doneP, refusedP, openM, opnM, strM, madeM, newM, with_nil, without_one]
theorem may_fin : mayM (strM s d) ⟨6, [], []⟩ ⟨0, [], 0, [], [], false, false⟩ = true := by simp [mayM, alikeA, plainM, firstM, secondM, poisonM, toldM, insE, putEr, openM, callsM, someM, canM, opnM, strM, madeM, newM, has_one, find_one, underF, inF, hasF, has, findD]
theorem st_fin : stepP (strM s d) ⟨6, [], []⟩ ⟨0, [], 0, [], [], false, false⟩ = opnM [(s, d)] s d := by simp [stepP, endP, midP, doneP, refusedP, openM, opnM, strM, madeM, newM, with_nil, without_one]
theorem ok_opn {nw : List Fil} (h : Asc Prod.fst nw) (hb : bigL nw) (hd : dt.length ≤ 1000000) : OkP (opnM nw nm dt) := ⟨h, hb, fun x hx => by
  have : x = (true, []) := by simpa [opnM] using hx
  subst this
  exact bigNil, by simp [opnM], hd, fun h => by cases h⟩
theorem ok_str (hd : dt.length ≤ 65536) : OkP (strM nm dt) := ⟨trivial, bigNil, fun x hx => by
  have : x = (true, []) := by simpa [strM] using hx
  subst this
  exact bigNil, by simp [strM], by show dt.length ≤ _; omega, fun _ => hd⟩
theorem ok_made : OkP madeM := ⟨trivial, bigNil, fun x hx => by
  have : x = (true, []) := by simpa [madeM] using hx
  subst this
  exact bigNil, by decide, by decide, fun h => by cases h⟩
end
theorem c93 {w : World} (hml : ML w) : Rets Tryd.prog 93 #[] w fun v w' => ∃ b, v = pt b ∧ Mo w w' [] b (opnM [] [] []) := by
  refine ent [] Tryd.func93 ((vcTryd93 w _).mpr ?_)
  unfold VCTryd93
  refine (c97 w).mono ?_
  rintro v w1 ⟨rfl, ⟨cm, cn, cd, m1⟩, k1, z1⟩
  have M1 : Mo w w1 [] (w.heap.size + 1) newM := ⟨⟨_, cm, cn, cd, m1, fun i hi => by have := newD_lt hi; exact ⟨by omega, by omega, by simp⟩⟩, k1, fun i hi => by cases hi⟩
  refine ⟨_, rfl, k1.keeps0, bif_b (fun h => by cases h) (fun _ => ?_)⟩
  refine (M1.stepT hml okNew (sm0 _ _ 1 (s := []) (Nat.zero_le _) 0 0 false false) may_make st_make).mono ?_
  rintro v w2 ⟨rfl, M2, k2⟩
  refine ⟨_, rfl, k2.keeps0, bif_not (fun h => by cases h) (fun _ => ?_)⟩
  refine (M2.stepT hml ok_made (sm0 _ _ 2 (s := []) (Nat.zero_le _) 0 0 false false) may_open st_open).mono ?_
  rintro v w3 ⟨rfl, M3, k3⟩
  exact ⟨_, rfl, k3.keeps0, bif_not (fun h => by cases h) (fun _ => ⟨_, rfl, _, rfl, M3⟩)⟩
end Go.Proofs.YtbpknjldphckgaaDoor
