/- Arguments that are lists of members. -/
import Derived.Test.YtbpknjldphckgaaDoorRy
import Derived.Test.YtbpknjldphckgaaDoorEh
namespace Go.Proofs.YtbpknjldphckgaaDoor
open Go Go.SX Go.Proofs Go.ChangeShapes Go.WideShapes Go.ChangeAt Go.ChangeMaps Go.RowKit
set_option maxRecDepth 100000
set_option linter.unusedVariables false
theorem fields50 : Tryd.prog.underlying 50 = some (.struct #[{ name := "Name", type := 9, offset := 0, embedded := false, tag := "", pkgPath := "", byteOffset := 0 }, { name := "At", type := 3, offset := 1, embedded := false, tag := "", pkgPath := "", byteOffset := 16 }, { name := "From", type := 3, offset := 2, embedded := false, tag := "", pkgPath := "", byteOffset := 24 }, { name := "Area", type := 3, offset := 3, embedded := false, tag := "", pkgPath := "", byteOffset := 32 }, { name := "Size", type := 3, offset := 4, embedded := false, tag := "", pkgPath := "", byteOffset := 40 }, { name := "Sum", type := 23, offset := 5, embedded := false, tag := "", pkgPath := "", byteOffset := 48 }, { name := "Method", type := 3, offset := 6, embedded := false, tag := "", pkgPath := "", byteOffset := 56 }]) := Tryd.underlying50
theorem cells50 : Tryd.prog.cellsOf 50 = 7 := by kernel_rfl
theorem cell_of_take {cs : List Value} {o : Nat} {x : Value} (h : (cs.drop o).take 1 = [x]) : cs[o]? = some x := by
  have h0 := congrArg (fun l => l[0]?) h
  simp only [List.getElem?_take, List.getElem?_drop, Nat.add_zero] at h0
  simpa using h0
theorem open_members {H : Type} {enc : TypeId × Value → H} {W : World} {v : Value} {d : DataW H} {ps : List MemPlace} {r : Reach} {b0 : Nat} (hval : Value.okWide Tryd.prog W r b0 42 v) (h : DataW.Trod enc Tryd.prog W 0 (fun _ => true) true 42 v d ps) :
    ∃ (q : Option Addr) (c : Nat) (l : List Mb), v = .slice q l.length c ∧ l.length ≤ c ∧ c ≤ maxLen ∧ MemsAt W q l ∧ ∀ b ∈ l, b.wf := by
  obtain ⟨a0, len, cap, rfl⟩ := okWide_slice und42 hval
  obtain ⟨fuel, hf⟩ := h
  rcases DataW.trod_slice und42 hf with ⟨hcs, _⟩ | ⟨a, len', cap', elems, rest, n, _, hcs, _, _, hl, hm, hlen, hel, _⟩
  · simp only [Value.cells, List.cons.injEq, and_true] at hcs
    cases hcs
    exact ⟨none, 0, [], rfl, Nat.le_refl _, by simp [maxLen], fun i hi => by simp at hi, fun b hb => by cases hb⟩
  · simp only [Value.cells, List.cons.injEq, and_true] at hcs
    cases hcs
    have one : ∀ i, ∃ b : Mb, i < len → MbAt W (a.add (i * 7)) b ∧ b.wf := by
      intro i
      by_cases hi : i < len
      · have he1 := hel i hi
        rw [List.getElem?_eq_getElem (by omega)] at he1
        obtain ⟨cs, hcells, hst⟩ := Option.bind_eq_some_iff.1 he1
        obtain ⟨_, hcl, hcell⟩ := World.cells?_some hcells
        obtain ⟨xs, m, _, _, _, hxl, hfield⟩ := DataW.trod_struct fields50 hst
        rw [cells50] at hcell
        have hx7 : xs.length = 7 := hxl
        have int_at : ∀ (j : Nat) (f : Field) (k : IntKind), (#[{ name := "Name", type := 9, offset := 0, embedded := false, tag := "", pkgPath := "", byteOffset := 0 }, { name := "At", type := 3, offset := 1, embedded := false, tag := "", pkgPath := "", byteOffset := 16 }, { name := "From", type := 3, offset := 2, embedded := false, tag := "", pkgPath := "", byteOffset := 24 }, { name := "Area", type := 3, offset := 3, embedded := false, tag := "", pkgPath := "", byteOffset := 32 }, { name := "Size", type := 3, offset := 4, embedded := false, tag := "", pkgPath := "", byteOffset := 40 }, { name := "Sum", type := 23, offset := 5, embedded := false, tag := "", pkgPath := "", byteOffset := 48 }, { name := "Method", type := 3, offset := 6, embedded := false, tag := "", pkgPath := "", byteOffset := 56 }] : Array Field)[j]? = some f → j < 7 → f.offset = j → Tryd.prog.underlying f.type = some (.int k) → Tryd.prog.cellsOf f.type = 1 → ∃ x, W.cell? ((a.add (i * 7)).add j) = some (.int k x) ∧ (Lit.int k x).wf = true := by
          intro j f k hf1 hj hf2 hf3 hf4
          have hx := hfield j f hf1
          rw [List.getElem?_eq_getElem (by omega), hf4, hf2] at hx
          obtain ⟨x, hcs1, _, hw⟩ := DataW.trod_int hf3 hx
          exact ⟨x, by rw [hcell j hj]; exact cell_of_take hcs1, hw⟩
        have str_at : ∃ s : ByteArray, W.cell? ((a.add (i * 7)).add 0) = some (.string s) := by
          have hx := hfield 0 { name := "Name", type := 9, offset := 0, embedded := false, tag := "", pkgPath := "", byteOffset := 0 } rfl
          rw [List.getElem?_eq_getElem (by omega)] at hx
          obtain ⟨s, hcs1, _, _⟩ := DataW.trod_string Tryd.underlying9 hx
          have c1 : Tryd.prog.cellsOf 9 = 1 := Tryd.cells9
          exact ⟨s, by rw [hcell 0 (by omega)]; exact cell_of_take (by rw [← c1]; exact hcs1)⟩
        obtain ⟨s, hs⟩ := str_at
        obtain ⟨x1, h1, w1⟩ := int_at 1 _ .i64 rfl (by omega) rfl Tryd.underlying3 Tryd.cells3
        obtain ⟨x2, h2, w2⟩ := int_at 2 _ .i64 rfl (by omega) rfl Tryd.underlying3 Tryd.cells3
        obtain ⟨x3, h3, w3⟩ := int_at 3 _ .i64 rfl (by omega) rfl Tryd.underlying3 Tryd.cells3
        obtain ⟨x4, h4, w4⟩ := int_at 4 _ .i64 rfl (by omega) rfl Tryd.underlying3 Tryd.cells3
        obtain ⟨x5, h5, w5⟩ := int_at 5 _ .u32 rfl (by omega) rfl Tryd.underlying23 Tryd.cells23
        obtain ⟨x6, h6, w6⟩ := int_at 6 _ .i64 rfl (by omega) rfl Tryd.underlying3 Tryd.cells3
        exact ⟨⟨bytesL s, x1, x2, x3, x4, x5, x6⟩, fun _ => ⟨⟨by rw [hs, show ba (bytesL s) = s from ba_of s], h1, h2, h3, h4, h5, h6⟩, wf_i64 w1, wf_i64 w2, wf_u32 w5⟩⟩
      · exact ⟨⟨[], 0, 0, 0, 0, 0, 0⟩, fun h => absurd h hi⟩
    obtain ⟨f, hf'⟩ : ∃ f : Nat → Mb, ∀ i, i < len → MbAt W (a.add (i * 7)) (f i) ∧ (f i).wf := ⟨fun i => Classical.choose (one i), fun i => Classical.choose_spec (one i)⟩
    have hll : ((List.range len).map f).length = len := by simp
    refine ⟨some a, cap, (List.range len).map f, by rw [hll], by rw [hll]; exact hl, hm, fun i hi => ⟨a, rfl, ?_⟩, fun b hb => ?_⟩
    · have hi' : i < len := by rwa [hll] at hi
      simp only [List.getElem_map, List.getElem_range]
      exact (hf' i hi').1
    · obtain ⟨i, hi, rfl⟩ := List.mem_map.1 hb
      exact (hf' i (List.mem_range.1 hi)).2
end Go.Proofs.YtbpknjldphckgaaDoor
