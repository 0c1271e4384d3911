/- Arguments: members, lists of members, calls. -/
import Derived.Test.YtbpknjldphckgaaDoorSa
import Derived.Test.YtbpknjldphckgaaDoorSxDec
import Derived.Test.YtbpknjldphckgaaDoorIj
namespace Go.Proofs.YtbpknjldphckgaaDoor
open Go Go.SX Go.Proofs Go.ChangeShapes Go.WideShapes Go.ChangeAt Go.ChangeMaps Go.RowKit
set_option maxRecDepth 100000
set_option linter.unusedVariables false
theorem cells50 : Tryd.prog.cellsOf 50 = 7 := by kernel_rfl
theorem cells84 : Tryd.prog.cellsOf 84 = 9 := by kernel_rfl
theorem wf_u32x {x : Int} (h : (Lit.int .u32 x).wf = true) : 0 ≤ x ∧ x < 4294967296 := by
  simp [Lit.wf, IntKind.min, IntKind.max, IntKind.signed, IntKind.bits] at h
  omega
theorem ml_pos {w : World} (h : ML w) : 0 < w.heap.size := by
  obtain ⟨m, h⟩ := h
  exact Nat.lt_of_le_of_lt (Nat.zero_le _) (cell_lt h)
section
variable {H : Type} {enc : TypeId × Value → H} {W : World}
theorem ba_lit (s : List UInt8) : ba s = ⟨s.toArray⟩ := rfl
theorem dec_member : Dec enc Tryd.prog W 50 mbC (fun b => b.wf) := fun fuel cs x h => by
  obtain ⟨xs, n, _, _, hcl, hxl, hf⟩ := DataW.trod_struct Tryd.underlying50 h
  rw [cells50] at hcl
  obtain ⟨s, e0, _⟩ := dec_field hf hxl (i := 0) (o := 0) rfl Tryd.cells9 rfl rfl (dec_str Tryd.underlying9)
  obtain ⟨x1, e1, w1⟩ := dec_field hf hxl (i := 1) (o := 1) rfl Tryd.cells3 rfl rfl (dec_int Tryd.underlying3)
  obtain ⟨x2, e2, w2⟩ := dec_field hf hxl (i := 2) (o := 2) rfl Tryd.cells3 rfl rfl (dec_int Tryd.underlying3)
  obtain ⟨x3, e3, w3⟩ := dec_field hf hxl (i := 3) (o := 3) rfl Tryd.cells3 rfl rfl (dec_int Tryd.underlying3)
  obtain ⟨x4, e4, w4⟩ := dec_field hf hxl (i := 4) (o := 4) rfl Tryd.cells3 rfl rfl (dec_int Tryd.underlying3)
  obtain ⟨x5, e5, w5⟩ := dec_field hf hxl (i := 5) (o := 5) rfl Tryd.cells23 rfl rfl (dec_int Tryd.underlying23)
  obtain ⟨x6, e6, w6⟩ := dec_field hf hxl (i := 6) (o := 6) rfl Tryd.cells3 rfl rfl (dec_int Tryd.underlying3)
  refine ⟨⟨s, x1, x2, x3, x4, x5, x6⟩, ?_, wf_i64 w1, wf_i64 w2, wf_u32x w5⟩
  rw [← List.drop_zero (l := cs), e0, e1, e2, e3, e4, e5, e6, dec_end hcl]
  rfl
def opC (o : Opx) : List Value := .int .i64 o.k :: mbC o.m ++ [.string (ba o.t)]
theorem dec_op : Dec enc Tryd.prog W 84 opC (fun o => o.m.wf) := fun fuel cs x h => by
  obtain ⟨xs, n, _, _, hcl, hxl, hf⟩ := DataW.trod_struct Tryd.underlying84 h
  rw [cells84] at hcl
  obtain ⟨k, e0, _⟩ := dec_field hf hxl (i := 0) (o := 0) rfl Tryd.cells3 rfl rfl (dec_int Tryd.underlying3)
  obtain ⟨m, e1, wm⟩ := dec_field hf hxl (i := 1) (o := 1) rfl cells50 rfl rfl dec_member
  obtain ⟨t, e2, _⟩ := dec_field hf hxl (i := 2) (o := 8) rfl Tryd.cells9 rfl rfl (dec_str Tryd.underlying9)
  refine ⟨⟨k, m, t⟩, ?_, wm⟩
  rw [← List.drop_zero (l := cs), e0, e1, e2, dec_end hcl]
  simp [opC, ba_lit]
theorem mems_rows {q : Option Addr} {l : List Mb} (h : RowsAt W 7 mbC q l) : MemsAt W q l := fun i hi => by
  obtain ⟨a, e, hc⟩ := h i hi
  exact ⟨a, e, hc 0 _ rfl, hc 1 _ rfl, hc 2 _ rfl, hc 3 _ rfl, hc 4 _ rfl, hc 5 _ rfl, hc 6 _ rfl⟩
theorem ops_rows {q : Option Addr} {l : List Opx} (h : RowsAt W 9 opC q l) : OpsAt W q l := fun i hi => by
  obtain ⟨a, e, hc⟩ := h i hi
  exact ⟨a, e, hc 0 _ rfl, hc 1 _ rfl, hc 2 _ rfl, hc 3 _ rfl, hc 4 _ rfl, hc 5 _ rfl, hc 6 _ rfl, hc 7 _ rfl, hc 8 _ rfl⟩
theorem open_rows {t e : TypeId} {k : Nat} {β : Type} {C : β → List Value} {ok : β → Prop} (ht : Tryd.prog.underlying t = some (.slice e)) (hk : Tryd.prog.cellsOf e = k) (hd : Dec enc Tryd.prog W e C ok) {v : Value} {d : DataW H} {ps : List MemPlace} {r : Reach} {b0 : Nat}
    (hval : Value.okWide Tryd.prog W r b0 t v) (h : DataW.Trod enc Tryd.prog W 0 (fun _ => true) true t v d ps) : ∃ (q : Option Addr) (c : Nat) (l : List β), v = .slice q l.length c ∧ l.length ≤ c ∧ c ≤ maxLen ∧ RowsAt W k C q l ∧ ∀ b ∈ l, ok b := by
  obtain ⟨a0, len, cap, rfl⟩ := okWide_slice ht hval
  obtain ⟨fuel, hf⟩ := h
  obtain ⟨q, c, l, hcs, h1, h2, h3, h4⟩ := dec_rows ht hk hd hf
  simp only [Value.cells, List.cons.injEq, and_true] at hcs
  exact ⟨q, c, l, hcs, h1, h2, h3, h4⟩
theorem open_members {v : Value} {d : DataW H} {ps : List MemPlace} {r : Reach} {b0 : Nat} (hval : Value.okWide Tryd.prog W r b0 42 v) (h : DataW.Trod enc Tryd.prog W 0 (fun _ => true) true 42 v d ps) :
    ∃ (q : Option Addr) (c : Nat) (l : List Mb), v = .slice q l.length c ∧ MemsAt W q l ∧ ∀ b ∈ l, b.wf := by
  obtain ⟨q, c, l, h1, _, _, h2, h3⟩ := open_rows und42 cells50 dec_member hval h
  exact ⟨q, c, l, h1, mems_rows h2, h3⟩
theorem open_ops {v : Value} {d : DataW H} {ps : List MemPlace} {r : Reach} {b0 : Nat} (hval : Value.okWide Tryd.prog W r b0 79 v) (h : DataW.Trod enc Tryd.prog W 0 (fun _ => true) true 79 v d ps) :
    ∃ (q : Option Addr) (c : Nat) (l : List Opx), v = .slice q l.length c ∧ OpsAt W q l ∧ ∀ o ∈ l, o.m.wf := by
  obtain ⟨q, c, l, h1, _, _, h2, h3⟩ := open_rows Tryd.underlying79 cells84 dec_op hval h
  exact ⟨q, c, l, h1, ops_rows h2, h3⟩
/-- A struct that came in. -/
theorem open_struct {t : TypeId} {fs : Array Field} {β : Type} {C : β → List Value} {ok : β → Prop} (ht : Tryd.prog.underlying t = some (.struct fs)) (hd : Dec enc Tryd.prog W t C ok) {v : Value} {d : DataW H} {ps : List MemPlace} {r : Reach} {b0 : Nat}
    (hval : Value.okWide Tryd.prog W r b0 t v) (h : DataW.Trod enc Tryd.prog W 0 (fun _ => true) true t v d ps) : ∃ b, v = .agg (C b).toArray ∧ ok b := by
  unfold Value.okWide at hval
  rw [ht] at hval
  obtain ⟨cs, rfl, _⟩ := hval
  obtain ⟨fuel, hf⟩ := h
  obtain ⟨b, e, hb⟩ := hd _ _ _ hf
  refine ⟨b, ?_, hb⟩
  have e : cs.toList = C b := e
  rw [← e]
theorem open_member {v : Value} {d : DataW H} {ps : List MemPlace} {r : Reach} {b0 : Nat} (hval : Value.okWide Tryd.prog W r b0 50 v) (h : DataW.Trod enc Tryd.prog W 0 (fun _ => true) true 50 v d ps) : ∃ m : Mb, v = mbV m ∧ m.wf := by
  obtain ⟨m, e, hw⟩ := open_struct Tryd.underlying50 dec_member hval h
  exact ⟨m, e, hw⟩
theorem open_strL {v : Value} {d : DataW H} {ps : List MemPlace} {r : Reach} {b0 : Nat} (hval : Value.okWide Tryd.prog W r b0 9 v) (h : DataW.Trod enc Tryd.prog W 0 (fun _ => true) true 9 v d ps) : ∃ t : List UInt8, v = .string (ba t) := by
  obtain ⟨s, rfl, _⟩ := open_string Tryd.underlying9 hval h
  exact ⟨bytesL s, by rw [show ba (bytesL s) = s from ba_of s]⟩
/-- What is looked for. -/
structure Lkx where
  f : List UInt8
  ti : Int
  o : Opx
def lkC (x : Lkx) : List Value := [.string (ba x.f), .int .i64 x.ti] ++ opC x.o
theorem cells95 : Tryd.prog.cellsOf 95 = 11 := by kernel_rfl
theorem dec_look : Dec enc Tryd.prog W 95 lkC (fun x => x.o.m.wf ∧ -9223372036854775808 ≤ x.ti ∧ x.ti < 9223372036854775808) := fun fuel cs x h => by
  obtain ⟨xs, n, _, _, hcl, hxl, hf⟩ := DataW.trod_struct Tryd.underlying95 h
  rw [cells95] at hcl
  obtain ⟨f, e0, _⟩ := dec_field hf hxl (i := 0) (o := 0) rfl Tryd.cells9 rfl rfl (dec_str Tryd.underlying9)
  obtain ⟨ti, e1, w1⟩ := dec_field hf hxl (i := 1) (o := 1) rfl Tryd.cells3 rfl rfl (dec_int Tryd.underlying3)
  obtain ⟨o, e2, w2⟩ := dec_field hf hxl (i := 2) (o := 2) rfl cells84 rfl rfl dec_op
  refine ⟨⟨f, ti, o⟩, ?_, w2, wf_i64 w1⟩
  rw [← List.drop_zero (l := cs), e0, e1, e2, dec_end hcl]
  simp [lkC, ba_lit]
theorem open_look {v : Value} {d : DataW H} {ps : List MemPlace} {r : Reach} {b0 : Nat} (hval : Value.okWide Tryd.prog W r b0 95 v) (h : DataW.Trod enc Tryd.prog W 0 (fun _ => true) true 95 v d ps) :
    ∃ (f : List UInt8) (ti : Int) (o : Opx), v = .agg #[.string (ba f), .int .i64 ti, .int .i64 o.k, .string (ba o.m.s), .int .i64 o.m.a, .int .i64 o.m.f, .int .i64 o.m.r, .int .i64 o.m.z, .int .u32 o.m.u, .int .i64 o.m.m, .string (ba o.t)] ∧ o.m.wf := by
  obtain ⟨x, e, hw, _⟩ := open_struct Tryd.underlying95 dec_look hval h
  exact ⟨x.f, x.ti, x.o, e, hw⟩
end
end Go.Proofs.YtbpknjldphckgaaDoor
