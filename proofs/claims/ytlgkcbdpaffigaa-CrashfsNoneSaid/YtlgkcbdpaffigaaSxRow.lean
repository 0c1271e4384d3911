/- Lemmas for the rows' ends. -/
import Derived.Test.YtlgkcbdpaffigaaSxLib
set_option linter.unusedSimpArgs false
set_option linter.unusedVariables false
namespace Go.SX
open Go Go.RowKit Go.ChangeShapes Go.WideShapes Go.ChangeAt

theorem trodAll_stays {H : Type} {enc : TypeId × Value → H} {P : Program} (hl : laidOutB P = true) {W W' : World} (hb : Below W.heap.size W W') {sp : Nat → Bool} : ∀ {ts : List TypeId} {vs : List Value} {ds : List (DataW H)} {ps : List MemPlace},
    (ts.all fun t => P.readableRec t && decide (t < P.types.size)) = true → DataW.TrodAll enc P W 0 (fun _ => true) true ts vs ds ps → (∀ x ∈ ps, x.block < W.heap.size) → (∀ x ∈ ps, sp x.block = true) → DataW.TrodAll enc P W' 0 sp true ts vs ds ps
  | [], [], [], _, _, h, _, _ => h
  | [], [], _ :: _, _, _, h, _, _ => h.elim
  | [], _ :: _, _, _, _, h, _, _ => h.elim
  | _ :: _, [], _, _, _, h, _, _ => h.elim
  | _ :: _, _ :: _, [], _, _, h, _, _ => h.elim
  | t :: ts, v :: vs, d :: ds, ps, ht, ⟨p, q, h1, h2, e⟩, hlt, hs => by
    subst e
    simp only [List.all_cons, Bool.and_eq_true, decide_eq_true_eq] at ht
    refine ⟨p, q, WideElems.Trod_stays hl ht.1.1 ht.1.2 h1 (fun x hx => hb.same (hlt x (List.mem_append_left _ hx))) (fun x hx => hs x (List.mem_append_left _ hx)), trodAll_stays hl hb ?_ h2 (fun x hx => hlt x (List.mem_append_right _ hx)) (fun x hx => hs x (List.mem_append_right _ hx)), rfl⟩
    simpa using ht.2
/-- The row's end, for 'true, and each argument as it was'. -/
theorem true_post {H : Type} {enc : TypeId × Value → H} {P : Program} {f : Func} {s : ChangeSpec} {apart fresh handsOn : Bool} {W W' : World} {args : Array Value} {ds gs : List (DataW H)} {before : List MemPlace} {tb : TypeId}
    (hl : laidOutB P = true) (hts : (f.params.toList.all fun t => P.readableRec t && decide (t < P.types.size)) = true) (hv : s.vars = []) (hrt : f.resultTypes = #[tb]) (htb : P.underlying tb = some .bool)
    (hs : (s.fn H (ds ++ gs)).results = [.lit (.bool true)] ∧ (s.fn H (ds ++ gs)).args = ds ∧ (s.fn H (ds ++ gs)).vars = [])
    (hW : DataW.Whole enc P f.params.toList s.vars apart W args.toList ds gs before) (hk : Kp none_ W W') : s.post enc P f apart fresh handsOn false W args (.bool true) W' := by
  have hlt := hW.lt
  have hW' := hW
  obtain ⟨p, q, hA, hV, rfl, _, _⟩ := hW
  refine ⟨ds, gs, _, [], p, [], hW', ?_, ?_, ?_, hk.frame _, fun h => by cases h⟩
  · rw [hs.1, hrt]
    exact trodAll_mk1 (shut_bool htb _)
  · rw [hs.2.1]
    exact trodAll_stays hl hk.below hts hA (fun x hx => hlt x (List.mem_append_left _ hx)) (fun x hx => by simpa using hlt x (List.mem_append_left _ hx))
  · rw [hs.2.2, hv]; rfl
theorem wf_u8 {x : Int} (h : (Lit.int .u8 x).wf = true) : 0 ≤ x ∧ x < 256 := by
  simp [Lit.wf, IntKind.min, IntKind.max, IntKind.signed, IntKind.bits] at h
  omega
theorem wf_i64 {x : Int} (h : (Lit.int .i64 x).wf = true) : -9223372036854775808 ≤ x ∧ x < 9223372036854775808 := by
  simp [Lit.wf, IntKind.min, IntKind.max, IntKind.signed, IntKind.bits] at h
  omega
/-- A slice of integers, opened. -/
theorem open_row {H : Type} {enc : TypeId × Value → H} {P : Program} {W : World} {t e : TypeId} {k : IntKind} {v : Value} {d : DataW H} {ps : List MemPlace} {r : Reach} {b0 : Nat} (ht : P.underlying t = some (.slice e)) (he : P.underlying e = some (.int k)) (hc : P.cellsOf e = 1)
    (hval : Value.okWide P W r b0 t v) (h : DataW.Trod enc P W 0 (fun _ => true) true t v d ps) :
    ∃ (q : Option Addr) (n c : Nat) (b : Int → Int), v = .slice q n c ∧ n ≤ c ∧ c ≤ maxLen ∧ Ints W k q n b ∧ ∀ i : Int, 0 ≤ i → i < n → (Lit.int k (b i)).wf = true := by
  obtain ⟨a0, len, cap, rfl⟩ := okWide_slice ht hval
  obtain ⟨fuel, hf⟩ := h
  rcases open_ints ht he hc hf with ⟨hcs, _⟩ | ⟨a, n, c, zs, hcs, _, hl, hm, hz, _, hcell, hwf⟩
  · simp only [Value.cells, List.cons.injEq, and_true] at hcs
    cases hcs
    exact ⟨none, 0, 0, fun _ => 0, rfl, Nat.le_refl _, by simp [maxLen], fun i h0 h1 => by omega, fun i h0 h1 => by omega⟩
  · simp only [Value.cells, List.cons.injEq, and_true] at hcs
    cases hcs
    simp only [if_true] at hz
    refine ⟨some a, _, _, fun i => zs.getD i.toNat 0, rfl, hl, hm, fun i h0 h1 => ⟨a, rfl, hcell i.toNat (by omega)⟩, fun i h0 h1 => hwf _ ?_⟩
    have hi : i.toNat < zs.length := by omega
    show zs.getD i.toNat 0 ∈ zs
    rw [List.getD_eq_getElem?_getD, List.getElem?_eq_getElem hi]
    exact List.getElem_mem hi
/-- An array of two numbers. -/
theorem open_two {P : Program} {W : World} {t e : TypeId} {k : IntKind} {v : Value} {r : Reach} {b0 : Nat} (ht : P.underlying t = some (.array 2 e)) (he : P.underlying e = some (.int k)) (hc : P.cellsOf t = 2) (hts : P.cellTypes P.depth t = some [e, e])
    (hval : Value.okWide P W r b0 t v) : ∃ x y, v = .agg #[.int k x, .int k y] ∧ k.has x ∧ k.has y := by
  unfold Value.okWide at hval
  rw [ht] at hval
  obtain ⟨cs, rfl, hs, ts, h1, _, h2⟩ := hval
  rw [hts] at h1
  cases h1
  rw [hc] at hs
  have one : ∀ i, i < 2 → ∃ x, cs[i]? = some (.int k x) ∧ k.has x := by
    intro i hi
    have hv : cs[i]? = some (cs[i]'(by omega)) := Array.getElem?_eq_getElem (by omega)
    obtain ⟨u, hu, hok⟩ := h2 i _ hv
    have : u = e := by
      have hu' : [e, e][i % 2]? = some u := hu
      rcases (by omega : i = 0 ∨ i = 1) with h | h <;> (rw [h] at hu'; simpa using hu'.symm)
    subst this
    unfold Cell.okWide at hok
    rw [he] at hok
    unfold Cell.ok at hok
    rw [he] at hok
    rw [hv]
    generalize cs[i]'(by omega) = z at hok
    cases z <;> simp_all
  obtain ⟨x, hx, hx'⟩ := one 0 (by omega)
  obtain ⟨y, hy, hy'⟩ := one 1 (by omega)
  refine ⟨x, y, ?_, hx', hy'⟩
  congr 1
  apply Array.ext_getElem?
  intro i
  match i with
  | 0 => rw [hx]; rfl
  | 1 => rw [hy]; rfl
  | i + 2 => rw [Array.getElem?_eq_none (by omega)]; simp
theorem has_i64 {n : Int} (h : IntKind.has .i64 n) : -9223372036854775808 ≤ n ∧ n < 9223372036854775808 := by
  simp [IntKind.has, IntKind.min, IntKind.max, IntKind.bits, IntKind.signed] at h
  omega
/-- A slice of structs whose fields are integers, opened. -/
theorem open_structs {H : Type} {enc : TypeId × Value → H} {P : Program} {W : World} {t e : TypeId} {fs : Array Field} {ks : List IntKind} {v : Value} {d : DataW H} {ps : List MemPlace} {r : Reach} {b0 : Nat} (ht : P.underlying t = some (.slice e)) (he : P.underlying e = some (.struct fs)) (hc : P.cellsOf e = ks.length)
    (hfs : ∀ j k, ks[j]? = some k → ∃ f : Field, fs[j]? = some f ∧ f.offset = j ∧ P.underlying f.type = some (.int k) ∧ P.cellsOf f.type = 1)
    (hval : Value.okWide P W r b0 t v) (h : DataW.Trod enc P W 0 (fun _ => true) true t v d ps) :
    ∃ (q : Option Addr) (n c : Nat), v = .slice q n c ∧ n ≤ c ∧ c ≤ maxLen ∧ ∀ i j k, i < n → ks[j]? = some k → ∃ a x, q = some a ∧ W.cell? (a.add (i * ks.length + j)) = some (.int k x) ∧ (Lit.int k x).wf = true := by
  obtain ⟨a0, len, cap, rfl⟩ := okWide_slice ht hval
  obtain ⟨fuel, hf⟩ := h
  rcases DataW.trod_slice ht hf with ⟨hcs, _⟩ | ⟨a, len', cap', elems, rest, n, _, hcs, _, _, hl, hm, hlen, hel, _⟩
  · simp only [Value.cells, List.cons.injEq, and_true] at hcs
    cases hcs
    exact ⟨none, 0, 0, rfl, Nat.le_refl _, by simp [maxLen], fun i j k h0 h1 => by omega⟩
  · simp only [Value.cells, List.cons.injEq, and_true] at hcs
    cases hcs
    refine ⟨some a, _, _, rfl, hl, hm, fun i j k hi hk => ?_⟩
    have he1 := hel i hi
    rw [List.getElem?_eq_getElem (by omega)] at he1
    obtain ⟨cs, hcells, hst⟩ := Option.bind_eq_some_iff.1 he1
    obtain ⟨_, hcl, hcell⟩ := World.cells?_some hcells
    obtain ⟨xs, m, _, _, _, hxl, hfield⟩ := DataW.trod_struct he hst
    obtain ⟨f, hf1, hf2, hf3, hf4⟩ := hfs j k hk
    have hj : j < ks.length := (List.getElem?_eq_some_iff.1 hk).1
    have hx := hfield j f hf1
    have hjs : j < xs.length := by rw [hxl]; exact (Array.getElem?_eq_some_iff.1 hf1).1
    rw [List.getElem?_eq_getElem hjs, hf4, hf2] at hx
    obtain ⟨x, hcs1, _, hw⟩ := DataW.trod_int hf3 hx
    have hcj : cs[j]? = some (.int k x) := by
      have h0 := congrArg (fun l => l[0]?) hcs1
      simp only [List.getElem?_take, List.getElem?_drop, Nat.add_zero] at h0
      simpa using h0
    refine ⟨a, x, rfl, ?_, hw⟩
    rw [← hc, ← add_add, hcell j (by omega)]
    exact hcj
end Go.SX
