/- Arguments: files, steps, answers, states. -/
import Derived.Test.YtbpknjldphckgaaDoorSa
import Derived.Test.YtbpknjldphckgaaDoorSxDec
import Derived.Test.YtbpknjldphckgaaDoorJi
namespace Go.Proofs.YtbpknjldphckgaaDoor
open Go Go.SX Go.Proofs Go.ChangeShapes Go.WideShapes Go.ChangeAt Go.ChangeMaps Go.RowKit
set_option maxRecDepth 100000
set_option linter.unusedVariables false
theorem cells107 : Tryd.prog.cellsOf 107 = 2 := by kernel_rfl
theorem cells105 : Tryd.prog.cellsOf 105 = 1 := by kernel_rfl
theorem cells46 : Tryd.prog.cellsOf 46 = 1 := by kernel_rfl
theorem cells120 : Tryd.prog.cellsOf 120 = 1 := by kernel_rfl
theorem cells122 : Tryd.prog.cellsOf 122 = 3 := by kernel_rfl
theorem cells124 : Tryd.prog.cellsOf 124 = 7 := by kernel_rfl
theorem cells126 : Tryd.prog.cellsOf 126 = 7 := by kernel_rfl
theorem cells130 : Tryd.prog.cellsOf 130 = 2 := by kernel_rfl
theorem cells28x : Tryd.prog.cellsOf 28 = 1 := by kernel_rfl
theorem cells27x : Tryd.prog.cellsOf 27 = 1 := by kernel_rfl
theorem cells4x : Tryd.prog.cellsOf 4 = 1 := by kernel_rfl
theorem cells5x : Tryd.prog.cellsOf 5 = 1 := by kernel_rfl
theorem cells9x : Tryd.prog.cellsOf 9 = 1 := by kernel_rfl
theorem cells3x : Tryd.prog.cellsOf 3 = 1 := by kernel_rfl
theorem ml_pos {w : World} (h : ML w) : 0 < w.heap.size := by
  obtain ⟨m, h⟩ := h
  exact Nat.lt_of_le_of_lt (Nat.zero_le _) (cell_lt h)
section
variable {H : Type} {enc : TypeId × Value → H} {W : World}
/-- A slice in a struct. -/
structure Sl (β : Type) where
  q : Option Addr
  c : Nat
  l : List β
def slC {β : Type} (x : Sl β) : List Value := [.slice x.q x.l.length x.c]
theorem dec_slice {t e : TypeId} {k : Nat} {β : Type} {C : β → List Value} {ok : β → Prop} (ht : Tryd.prog.underlying t = some (.slice e)) (hk : Tryd.prog.cellsOf e = k) (hd : Dec enc Tryd.prog W e C ok) :
    Dec enc Tryd.prog W t (slC (β := β)) (fun x => (x.l.length ≤ x.c ∧ x.c ≤ maxLen) ∧ RowsAt W k C x.q x.l ∧ ∀ b ∈ x.l, ok b) := fun fuel cs x h => by
  obtain ⟨q, c, l, e, h1, h2, h3, h4⟩ := dec_rows ht hk hd h
  exact ⟨⟨q, c, l⟩, e, ⟨h1, h2⟩, h3, h4⟩
theorem dec_bytes : Dec enc Tryd.prog W 27 (slC (β := UInt8)) (fun x => (x.l.length ≤ x.c ∧ x.c ≤ maxLen) ∧ BytesAt W x.q (ba x.l)) := fun fuel cs x h => by
  obtain ⟨q, c, l, e, h1, h2, h3, h4⟩ := dec_rows und27 cells5x (dec_int Tryd.underlying5) h
  refine ⟨⟨q, c, l.map fun n => UInt8.ofNat n.toNat⟩, by rw [e]; simp [slC], by simpa using ⟨h1, h2⟩, fun i hi => ?_⟩
  have hil : i < l.length := by rw [ba_size] at hi; simpa using hi
  obtain ⟨a, ea, hc⟩ := h3 i hil
  refine ⟨a, ea, ?_⟩
  have := hc 0 _ rfl
  have hw := h4 _ (List.getElem_mem hil)
  have hr : 0 ≤ l[i] ∧ l[i] < 256 := by
    simp [Lit.wf, IntKind.min, IntKind.max, IntKind.signed, IntKind.bits] at hw
    omega
  rw [add_add, Nat.mul_one, Nat.add_zero] at this
  rw [this, ba_get]
  simp only [List.getElem_map]
  congr 2
  rw [UInt8.toNat_ofNat']
  omega
theorem dec_strs : Dec enc Tryd.prog W 46 (slC (β := List UInt8)) (fun x => (x.l.length ≤ x.c ∧ x.c ≤ maxLen) ∧ StrsAt W x.q x.l) := fun fuel cs x h => by
  obtain ⟨q, c, l, e, h1, h2, h3, h4⟩ := dec_rows und46 cells9x (dec_str Tryd.underlying9) h
  refine ⟨⟨q, c, l⟩, e, ⟨h1, h2⟩, fun i hi => ?_⟩
  obtain ⟨a, ea, hc⟩ := h3 i hi
  refine ⟨a, ea, ?_⟩
  have := hc 0 _ rfl
  rwa [add_add, Nat.mul_one, Nat.add_zero] at this
theorem dec_file : Dec enc Tryd.prog W 107 fxC (fun x => DatAt W x) := fun fuel cs x h => by
  obtain ⟨xs, n, _, _, hcl, hxl, hf⟩ := DataW.trod_struct Tryd.underlying107 h
  rw [cells107] at hcl
  obtain ⟨s, e0, _⟩ := dec_field hf hxl (i := 0) (o := 0) rfl cells9x rfl rfl (dec_str Tryd.underlying9)
  obtain ⟨d, e1, d1, d2⟩ := dec_field hf hxl (i := 1) (o := 1) rfl cells27x rfl rfl dec_bytes
  refine ⟨⟨s, d.l, d.q, d.c⟩, ?_, d2, d1⟩
  rw [← List.drop_zero (l := cs), e0, e1, dec_end hcl]
  rfl
theorem fxs_rows {q : Option Addr} {l : List Fx} (h : RowsAt W 2 fxC q l) : FxsAt W q l := fun i hi => by
  obtain ⟨a, e, hc⟩ := h i hi
  exact ⟨a, e, hc 0 _ rfl, hc 1 _ rfl⟩
theorem dec_files : Dec enc Tryd.prog W 105 (slC (β := Fx)) (fun x => (x.l.length ≤ x.c ∧ x.c ≤ maxLen) ∧ FxsAt W x.q x.l ∧ ∀ y ∈ x.l, DatAt W y) := fun fuel cs x h => by
  obtain ⟨b, e, h1, h2, h3⟩ := dec_slice und105 cells107 dec_file _ _ _ h
  exact ⟨b, e, h1, fxs_rows h2, h3⟩
theorem fil_rd {x : Sl Fx} (h : FxsAt W x.q x.l) (hd : ∀ y ∈ x.l, DatAt W y) : FRd W x.q (x.l.map Fx.fil).length (x.l.map Fx.fil) := ⟨x.l, rfl, by simp, h, hd⟩
theorem dec_state : Dec enc Tryd.prog W 130 (fun x : Stx => [.bool x.t, .slice x.q x.L.length x.c]) (fun x => FRd W x.q x.L.length x.L) := fun fuel cs x h => by
  obtain ⟨xs, n, _, _, hcl, hxl, hf⟩ := DataW.trod_struct Tryd.underlying130 h
  rw [cells130] at hcl
  obtain ⟨t, e0, _⟩ := dec_field hf hxl (i := 0) (o := 0) rfl cells4x rfl rfl (dec_bool Tryd.underlying4)
  obtain ⟨d, e1, d1, d2, d3⟩ := dec_field hf hxl (i := 1) (o := 1) rfl cells105 rfl rfl dec_files
  refine ⟨⟨t, d.l.map Fx.fil, d.q, d.c⟩, ?_, fil_rd d2 d3⟩
  rw [← List.drop_zero (l := cs), e0, e1, dec_end hcl]
  simp [slC]
theorem dec_keep : Dec enc Tryd.prog W 122 (fun x : Sl Bool × Int × Int => [.slice x.1.q x.1.l.length x.1.c, .int .i64 x.2.1, .int .u8 x.2.2]) (fun _ => True) := fun fuel cs x h => by
  obtain ⟨xs, n, _, _, hcl, hxl, hf⟩ := DataW.trod_struct Tryd.underlying122 h
  rw [cells122] at hcl
  obtain ⟨k, e0, _⟩ := dec_field hf hxl (i := 0) (o := 0) rfl cells120 rfl rfl (dec_slice Tryd.underlying120 cells4x (dec_bool Tryd.underlying4))
  obtain ⟨n1, e1, _⟩ := dec_field hf hxl (i := 1) (o := 1) rfl cells3x rfl rfl (dec_int Tryd.underlying3)
  obtain ⟨n2, e2, _⟩ := dec_field hf hxl (i := 2) (o := 2) rfl cells5x rfl rfl (dec_int Tryd.underlying5)
  refine ⟨⟨k, n1, n2⟩, ?_, trivial⟩
  rw [← List.drop_zero (l := cs), e0, e1, e2, dec_end hcl]
  simp [slC]
theorem dec_op : Dec enc Tryd.prog W 124 (fun o : Ox => (opC o).toList) (fun o => OpAt W o) := fun fuel cs x h => by
  obtain ⟨xs, n, _, _, hcl, hxl, hf⟩ := DataW.trod_struct Tryd.underlying124 h
  rw [cells124] at hcl
  obtain ⟨k, e0, _⟩ := dec_field hf hxl (i := 0) (o := 0) rfl cells3x rfl rfl (dec_int Tryd.underlying3)
  obtain ⟨s, e1, _⟩ := dec_field hf hxl (i := 1) (o := 1) rfl cells9x rfl rfl (dec_str Tryd.underlying9)
  obtain ⟨d, e2, d1, d2⟩ := dec_field hf hxl (i := 2) (o := 2) rfl cells27x rfl rfl dec_bytes
  obtain ⟨N, e3, _⟩ := dec_field hf hxl (i := 3) (o := 3) rfl cells3x rfl rfl (dec_int Tryd.underlying3)
  obtain ⟨c, e4, _⟩ := dec_field hf hxl (i := 4) (o := 4) rfl cells122 rfl rfl dec_keep
  refine ⟨⟨k, s, d.l, d.q, d.c, N, c.1.q, c.1.l.length, c.1.c, c.2.1, c.2.2⟩, ?_, d2, d1⟩
  rw [← List.drop_zero (l := cs), e0, e1, e2, e3, e4, dec_end hcl]
  simp [slC, opC, ba]
theorem dec_answer : Dec enc Tryd.prog W 126 (fun a : Ax => (anC a).toList) (fun a => AnAt W a) := fun fuel cs x h => by
  obtain ⟨xs, n, _, _, hcl, hxl, hf⟩ := DataW.trod_struct Tryd.underlying126 h
  rw [cells126] at hcl
  obtain ⟨k, e0, _⟩ := dec_field hf hxl (i := 0) (o := 0) rfl cells28x rfl rfl (dec_int Tryd.underlying28)
  obtain ⟨d, e1, d1, d2⟩ := dec_field hf hxl (i := 1) (o := 1) rfl cells27x rfl rfl dec_bytes
  obtain ⟨z, e2, _⟩ := dec_field hf hxl (i := 2) (o := 2) rfl cells3x rfl rfl (dec_int Tryd.underlying3)
  obtain ⟨s, e3, s1, s2⟩ := dec_field hf hxl (i := 3) (o := 3) rfl cells46 rfl rfl dec_strs
  obtain ⟨f, e4, f1, f2, f3⟩ := dec_field hf hxl (i := 4) (o := 4) rfl cells105 rfl rfl dec_files
  obtain ⟨r, e5, _⟩ := dec_field hf hxl (i := 5) (o := 5) rfl cells4x rfl rfl (dec_bool Tryd.underlying4)
  obtain ⟨p, e6, _⟩ := dec_field hf hxl (i := 6) (o := 6) rfl cells4x rfl rfl (dec_bool Tryd.underlying4)
  refine ⟨⟨k, d.l, d.q, d.c, z, s.l, s.q, s.c, f.l.map Fx.fil, f.q, f.c, r, p⟩, ?_, d2, d1, s2, fil_rd f2 f3⟩
  rw [← List.drop_zero (l := cs), e0, e1, e2, e3, e4, e5, e6, dec_end hcl]
  simp [slC, anC]
theorem open_struct {t : TypeId} {fs : Array Field} {β : Type} {C : β → List Value} {ok : β → Prop} (ht : Tryd.prog.underlying t = some (.struct fs)) (hd : Dec enc Tryd.prog W t C ok) {v : Value} {d : DataW H} {ps : List MemPlace} {r : Reach} {b0 : Nat}
    (hval : Value.okWide Tryd.prog W r b0 t v) (h : DataW.Trod enc Tryd.prog W 0 (fun _ => true) true t v d ps) : ∃ b, v = .agg (C b).toArray ∧ ok b := by
  unfold Value.okWide at hval
  rw [ht] at hval
  obtain ⟨cs, rfl, _⟩ := hval
  obtain ⟨fuel, hf⟩ := h
  obtain ⟨b, e, hb⟩ := hd _ _ _ hf
  refine ⟨b, ?_, hb⟩
  have e : cs.toList = C b := e
  rw [← e]
theorem open_op {v : Value} {d : DataW H} {ps : List MemPlace} {r : Reach} {b0 : Nat} (hval : Value.okWide Tryd.prog W r b0 124 v) (h : DataW.Trod enc Tryd.prog W 0 (fun _ => true) true 124 v d ps) : ∃ o : Ox, v = opV o ∧ OpAt W o := by
  obtain ⟨o, e, ho⟩ := open_struct Tryd.underlying124 dec_op hval h
  exact ⟨o, e, ho⟩
theorem open_answer {v : Value} {d : DataW H} {ps : List MemPlace} {r : Reach} {b0 : Nat} (hval : Value.okWide Tryd.prog W r b0 126 v) (h : DataW.Trod enc Tryd.prog W 0 (fun _ => true) true 126 v d ps) : ∃ a : Ax, v = anV a ∧ AnAt W a := by
  obtain ⟨a, e, ha⟩ := open_struct Tryd.underlying126 dec_answer hval h
  exact ⟨a, e, ha⟩
theorem open_state {v : Value} {d : DataW H} {ps : List MemPlace} {r : Reach} {b0 : Nat} (hval : Value.okWide Tryd.prog W r b0 130 v) (h : DataW.Trod enc Tryd.prog W 0 (fun _ => true) true 130 v d ps) : ∃ x : Stx, v = .agg #[.bool x.t, .slice x.q x.L.length x.c] ∧ FRd W x.q x.L.length x.L := by
  obtain ⟨a, e, ha⟩ := open_struct Tryd.underlying130 dec_state hval h
  exact ⟨a, e, ha⟩
theorem open_file {v : Value} {d : DataW H} {ps : List MemPlace} {r : Reach} {b0 : Nat} (hval : Value.okWide Tryd.prog W r b0 107 v) (h : DataW.Trod enc Tryd.prog W 0 (fun _ => true) true 107 v d ps) : ∃ x : Fx, v = fxV x ∧ DatAt W x := by
  obtain ⟨a, e, ha⟩ := open_struct Tryd.underlying107 dec_file hval h
  exact ⟨a, e, ha⟩
theorem open_files {v : Value} {d : DataW H} {ps : List MemPlace} {r : Reach} {b0 : Nat} (hval : Value.okWide Tryd.prog W r b0 105 v) (h : DataW.Trod enc Tryd.prog W 0 (fun _ => true) true 105 v d ps) : ∃ (q : Option Addr) (c : Nat) (l : List Fx), v = .slice q l.length c ∧ FxsAt W q l ∧ (∀ x ∈ l, DatAt W x) ∧ l.length ≤ maxLen := by
  obtain ⟨a0, len, cap, rfl⟩ := okWide_slice und105 hval
  obtain ⟨fuel, hf⟩ := h
  obtain ⟨q, c, l, hcs, h1, h2, h3, h4⟩ := dec_rows und105 cells107 dec_file hf
  simp only [Value.cells, List.cons.injEq, and_true] at hcs
  exact ⟨q, c, l, hcs, fxs_rows h3, h4, Nat.le_trans h1 h2⟩
theorem open_bytesL {v : Value} {d : DataW H} {ps : List MemPlace} {r : Reach} {b0 : Nat} (hval : Value.okWide Tryd.prog W r b0 27 v) (h : DataW.Trod enc Tryd.prog W 0 (fun _ => true) true 27 v d ps) : ∃ (q : Option Addr) (c : Nat) (l : List UInt8), v = .slice q l.length c ∧ BytesAt W q (ba l) ∧ l.length ≤ c ∧ c ≤ maxLen := by
  obtain ⟨a0, len, cap, rfl⟩ := okWide_slice und27 hval
  obtain ⟨fuel, hf⟩ := h
  obtain ⟨x, hcs, h1, h2⟩ := dec_bytes _ _ _ hf
  simp only [Value.cells, slC, List.cons.injEq, and_true] at hcs
  exact ⟨x.q, x.c, x.l, hcs, h2, h1⟩
end
end Go.Proofs.YtbpknjldphckgaaDoor
