import Derived.Test.YtlgkcbdpaffigaaBt
import Derived.Test.YtlgkcbdpaffigaaVcd
namespace Go.Proofs.Ytlgkcbdpaffigaa
open Go Go.SX Go.Proofs Go.Lib
set_option maxRecDepth 100000
set_option linter.unusedVariables false
set_option linter.unusedSimpArgs false
section
variable {w w' : World} {col col' : Col} {D X M : Nat} {s : St}
def writeIf (s : St) (x : Int) (n : Nat) (b : Int → Int) : St := if rightF x n = true ∧ n ≠ 0 then writeSt s x n b else s
theorem st20 {E : Nat} (h : Dsk w col D s) {bs : List Nat} (o : Out w col bs) (hE : E ≤ w.heap.size) (hn : ∀ i, col i ≠ 0 → E ≤ i) {q : Option Addr} {n cp : Nat} {b : Int → Int} (hb : Ints w .u8 q n b) (hby : ∀ i : Int, 0 ≤ i → i < n → isByte (b i)) (hq : 0 < n → ∀ a, q = some a → col a.block = 0) (hl : s.wait.length ≤ 90000) (at_ : Int) {K : Int → World → Option Addr → Nat → Nat → Option Addr → Nat → Nat → Option Addr → Nat → Nat → Prop}
    (hK : ∀ i w' col', Kp (ownC col) w w' → Grow col col' w w' → Dsk w' col' D (writeIf s at_ n b) → Out w' col' bs → (∀ i, col' i ≠ 0 → E ≤ i) → ∀ q1 n1 c1 q2 n2 c2 q3 n3 c3, K i w' q1 n1 c1 q2 n2 c2 q3 n3 c3) :
    Rets Try.prog 20 #[.pointer (some ⟨D, 0, none⟩), .int .i64 at_, .slice q n cp] w fun v w' => ∃ i, v = .int .i64 i ∧ Keeps w w' bs ∧ ∃ q1 n1 c1, w'.cell? ⟨D, 0, none⟩ = some (.slice q1 n1 c1) ∧ w'.frozen? ⟨D, 0, none⟩ = false ∧ ∃ q2 n2 c2, w'.cell? ⟨D, 1, none⟩ = some (.slice q2 n2 c2) ∧ w'.frozen? ⟨D, 1, none⟩ = false ∧ ∃ q3 n3 c3, w'.cell? ⟨D, 2, none⟩ = some (.slice q3 n3 c3) ∧ w'.frozen? ⟨D, 2, none⟩ = false ∧ K i w' q1 n1 c1 q2 n2 c2 q3 n3 c3 := by
  refine (c20 h hb hby hq hl at_).mono ?_
  rintro v w' ⟨rfl, k, col', g, h'⟩
  exact ⟨_, rfl, o.keeps k, Dsk.reads h' (hK _ w' col' k g h' (o.next g k.size) (grow_ok g h.lt hE hn))⟩
theorem blk_far {q : Option Addr} {E : Nat} (hE : ∀ a, q = some a → a.block < E) (hn : ∀ i, col i ≠ 0 → E ≤ i) : ∀ a, q = some a → col a.block = 0 := fun a ha => by
  by_cases c : col a.block = 0
  · exact c
  · have := hn _ c
    have := hE a ha
    omega
theorem boolL_all (n : Nat) : List.replicate n (Value.bool false) = boolL (fun j => decide (j < 0)) n := by
  apply List.ext_getElem
  · rw [List.length_replicate]; simp [boolL]
  · intro i h1 h2
    simp only [boolL, List.getElem_map, List.getElem_range, List.getElem_replicate]
    rfl
theorem info4 : ∃ i, Try.prog.info? 4 = some i ∧ i.zero = some (.bool false) ∧ i.size = 1 ∧ i.bytes = 1 := by
  have h : (Try.prog.info? 4).map (fun i => (i.zero, i.size, i.bytes)) = some (some (.bool false), 1, 1) := by kernel_rfl
  obtain ⟨i, hi, hh⟩ := Option.map_eq_some_iff.1 h
  simp only [Prod.mk.injEq] at hh
  exact ⟨i, hi, hh⟩
theorem c4 (W : World) {q : Option Addr} {n c : Nat} {ops : Nat → OpD} (h : OpsMem W q n ops) (x : OpD) (hx : x.Good W) : Rets Try.prog 4 #[.slice q n c, x.args] W fun v w' => v = .bool true ∧ Kp none_ W w' := by
  refine ent [_, _] Try.func4 ((vcTry4 _ _ _ _ _ _ _ _ _ _ _ _ W _).mpr ?_)
  unfold VCTry4
  intro _
  have ka : Kp none_ W (W.alloc (.cells #[.int .i64 x.k, .int .i64 x.x, .slice x.qb x.nb x.cb, .slice x.qk x.nk x.ck, .int .u8 x.fill] 39)) := (Kp.refl none_ W).alloc _ _
  have kf : ∀ {w : World}, Kp none_ W w → Kp (fun i => W.heap.size ≤ i) W w := fun k => k.mono fun _ _ h => h.elim
  have sz : (W.alloc (.cells #[.int .i64 x.k, .int .i64 x.x, .slice x.qb x.nb x.cb, .slice x.qk x.nk x.ck, .int .u8 x.fill] 39)).heap.size = W.heap.size + 1 := alloc_size _ _
  generalize W.alloc (.cells #[.int .i64 x.k, .int .i64 x.x, .slice x.qb x.nb x.cb, .slice x.qk x.nk x.ck, .int .u8 x.fill] 39) = w1 at *
  have live : ∀ {w : World} {K : Bool → World → Prop}, Kp none_ W w → W.heap.size < w.heap.size → (∀ w', Kp none_ W w' → K true w') →
      Rets Try.prog 13 #[] w fun v w' => ∃ t, v = .bool t ∧ Keeps w w' [W.heap.size] ∧ K t w' := fun k hs hR => (c13 _).mono (by
    rintro v w' ⟨rfl, k2⟩
    exact ⟨_, rfl, k2.keeps (fun b hb => ⟨by simp at hb; omega, id⟩), hR w' (k.trans k2)⟩)
  refine (c12 (h.far (kf ka) (Nat.le_refl _))).mono ?_
  rintro v wx ⟨t, rfl, e, hn⟩
  obtain rfl := e.symm
  refine ⟨t, rfl, (Kp.refl none_ _).keeps (fun b hb => ⟨by simp at hb; omega, id⟩), bif_not (fun ht => ?_) (fun ht => ?_)⟩
  · intro _
    exact live ka (by omega) fun w' k' => fun _ => ⟨_, rfl, rfl, k'⟩
  obtain ⟨hn1, hn2⟩ := hn ht
  intro _
  have kb : Kp none_ w1 (w1.alloc (.cells #[.int .i64 x.k, .int .i64 x.x, .slice x.qb x.nb x.cb, .slice x.qk x.nk x.ck, .int .u8 x.fill] 39)) := (Kp.refl none_ w1).alloc _ _
  have k2 := ka.trans kb
  have hone : OpsMem (w1.alloc (.cells #[.int .i64 x.k, .int .i64 x.x, .slice x.qb x.nb x.cb, .slice x.qk x.nk x.ck, .int .u8 x.fill] 39)) (some ⟨w1.heap.size, 0, none⟩) 1 (fun _ => x) := fun i hi => by
    have : i = 0 := by omega
    subst this
    refine ⟨_, rfl, ⟨?_, ?_, ?_, ?_, ?_⟩, hx.far (kf k2) (Nat.le_refl _)⟩ <;> (simp only [ad_add]; exact cell_alloc_new rfl)
  have sz2 : (w1.alloc (.cells #[.int .i64 x.k, .int .i64 x.x, .slice x.qb x.nb x.cb, .slice x.qk x.nk x.ck, .int .u8 x.fill] 39)).heap.size = w1.heap.size + 1 := alloc_size _ _
  generalize w1.alloc (.cells #[.int .i64 x.k, .int .i64 x.x, .slice x.qb x.nb x.cb, .slice x.qk x.nk x.ck, .int .u8 x.fill] 39) = w2 at *
  refine (c12 hone).mono ?_
  rintro v wx ⟨t2, rfl, e, hm⟩
  obtain rfl := e.symm
  refine ⟨t2, rfl, (Kp.refl none_ _).keeps (fun b hb => ⟨by simp at hb; omega, id⟩), bif_not (fun ht2 => ?_) (fun ht2 => ?_)⟩
  · intro _
    exact live k2 (by omega) fun w' k' => fun _ => ⟨_, rfl, rfl, k'⟩
  have hnb := (hm ht2).2 0 (by omega)
  have hnb : x.nb ≤ 3000 := hnb
  refine bif_dec (fun hk => ?_) (fun hk => ?_)
  · intro _
    exact live k2 (by omega) fun w' k' => fun _ => ⟨_, rfl, rfl, k'⟩
  clear live hone hm hn
  have hx2 := hx.far (kf k2) (Nat.le_refl _)
  have ho2 := h.far (kf k2) (Nat.le_refl _)
  have h2 := twoNew w2
  have kW : Kp (fun i => w2.heap.size ≤ i) w2 ((w2.alloc (.cells #[.slice none 0 0, .slice none 0 0, .slice none 0 0] 29)).alloc (.cells #[.slice none 0 0, .slice none 0 0, .slice none 0 0, .slice none 0 0] 34)) := ((Kp.refl _ w2).alloc _ _).alloc _ _
  generalize (w2.alloc (.cells #[.slice none 0 0, .slice none 0 0, .slice none 0 0] 29)).heap.size = m at *
  generalize (w2.alloc (.cells #[.slice none 0 0, .slice none 0 0, .slice none 0 0] 29)).alloc (.cells #[.slice none 0 0, .slice none 0 0, .slice none 0 0, .slice none 0 0] 34) = w0 at *
  refine ⟨fun i _ _ _ _ _ _ _ _ _ _ _ _ _ _ _ _ _ _ _ _ _ w' => ∃ k : Nat, i = k ∧ k ≤ n ∧ Kp (fun i => w2.heap.size ≤ i) w2 w' ∧ ∃ cD cM, Two w2.heap.size w' cD cM w2.heap.size m (playSt ops k), fun i _ _ _ _ _ _ _ _ _ _ _ _ _ _ _ _ _ _ _ _ _ _ => (n - i).toNat, ⟨0, rfl, by omega, kW, _, _, h2⟩, ?_⟩
  rintro i _ _ _ _ _ _ _ _ _ _ _ _ _ _ _ _ _ _ _ _ _ w3 ⟨k, rfl, hk, k3, cD, cM, h3⟩
  intro _
  have hX3 : W.heap.size < w3.heap.size := by have := k3.size; omega
  refine bif_dec (fun hlt => ⟨by omega, ?_⟩) (fun hge => ?_)
  · obtain ⟨a, rfl, o1, o2⟩ := ho2 k (by omega)
    have o1' := o1.far k3 (Nat.le_refl _)
    simp only [ptr_some, Int.toNat_natCast]
    refine ⟨_, _, _, _, _, _, _, _, _, ⟨o1'.k, o1'.x, o1'.b, o1'.q, o1'.fill, trivial⟩, fun _ => (c14 h3 k3 o2 (by have := playSt_wait ops hn2 k (by omega); omega)).mono ?_⟩
    rintro v w4 ⟨rfl, k4, k4', cD2, cM2, h4⟩
    refine ⟨_, rfl, k4'.keeps (fun i hi => by simp at hi; omega), h4.dsk.reads fun _ _ _ _ _ _ _ _ _ => h4.rdsk.reads fun _ _ _ _ _ _ _ _ _ _ _ _ => ?_⟩
    refine wr64 (by omega) ⟨rfl, ?_⟩
    exact ⟨⟨k + 1, by omega, by omega, k4, cD2, cM2, h4⟩, by first | omega | (dsimp only; omega)⟩
  have hkn : k = n := by omega
  subst hkn
  generalize hps : playSt ops k = s at *
  have hwt : s.wait.length ≤ 320 := by
    have := playSt_wait ops hn2 k (Nat.le_refl _)
    rw [hps] at this
    omega
  have hmE := h3.newM m (by rw [h3.rdsk.colD]; omega)
  have hn3 := h3.newD
  have o3 : Out w3 cD [W.heap.size, m] := fun b hb => by
    simp at hb
    rcases hb with rfl | rfl
    · refine ⟨hX3, ?_⟩
      by_cases c : cD W.heap.size = 0
      · exact c
      · have := hn3 _ c; omega
    · refine ⟨h3.rdsk.dlt, ?_⟩
      by_cases c : cD b = 0
      · exact c
      · have := h3.dis _ c
        rw [h3.rdsk.colD] at this
        omega
  have d3 := h3.dsk
  have hE3 := k3.size
  clear h3 h2
  have bools : ∀ {w : World}, Kp (fun i => w2.heap.size ≤ i) w2 w → Bools w x.qk x.nk x.kb := fun k => hx2.bools.far k (Nat.le_refl _)
  have qkE : 0 < x.nk → ∀ a, x.qk = some a → a.block < w2.heap.size := fun h0 a ha => by
    obtain ⟨a', e, hc⟩ := hx2.bools 0 h0
    rw [ha] at e
    cases e
    have := cell_lt hc
    rwa [add_block] at this
  have qbE : 0 < x.nb → ∀ a, x.qb = some a → a.block < w2.heap.size := fun h0 a ha => by
    obtain ⟨a', e, hc⟩ := hx2.bytes 0 (by omega) (by omega)
    rw [ha] at e
    cases e
    have := cell_lt hc
    rwa [add_block] at this
  intro _
  refine st16 d3 o3 hE3 hn3 fun w4 col4 k4 g4 d4 o4 n4 _ _ _ _ _ _ _ _ _ => ?_
  have k4' : Kp (fun i => w2.heap.size ≤ i) w2 w4 := k3.trans (k4.mono fun i _ hi => hn3 i hi)
  have sy4 := sync_synced s
  have wt4 : (syncSt s).wait = [] := rfl
  generalize syncSt s = s4 at *
  intro _
  refine st18 d4 o4 fun _ _ _ _ _ _ _ _ _ => ?_
  have hs4 := d4.ok.size
  refine wr64 (by omega) ?_
  intro _
  refine st17 d4 o4 rfl fun w5 q5 c5 k5 str5 d5 o5 _ _ _ _ _ _ _ _ _ => ?_
  have k5' : Kp (fun i => w2.heap.size ≤ i) w2 w5 := k4'.trans (k5.mono fun _ _ h => h.elim)
  intro _
  refine st19 d5 o5 k5'.size n4 (bools k5') (fun h0 => blk_far (qkE h0) n4) hx.fill (by rw [wt4]; simp) fun w6 col6 k6 g6 d6 o6 n6 _ _ _ _ _ _ _ _ _ => ?_
  have k6' : Kp (fun i => w2.heap.size ≤ i) w2 w6 := k5'.trans (k6.mono fun i _ hi => n4 i hi)
  have sy6 := sync_synced (keepsA (crashA s4 x.fill s4.size) x.nk x.kb s4.wait.length)
  have wt6 : (crashSt s4 x.nk x.kb x.fill).wait = [] := rfl
  have same6 : bytesOf (crashSt s4 x.nk x.kb x.fill) = bytesOf s4 := by
    have hz := crash_size s4 x.nk x.kb x.fill
    unfold bytesOf
    rw [hz]
    exact read_str hz (fun p p0 p1 => crash_synced sy4 _ _ _ p0 (by rw [hz] at p1; exact p1)) _ (by omega)
  have sz6 := crash_size s4 x.nk x.kb x.fill
  have sy6' : Synced (crashSt s4 x.nk x.kb x.fill) := sy6
  clear sy6
  generalize crashSt s4 x.nk x.kb x.fill = s6 at *
  intro _
  refine st18 d6 o6 fun _ _ _ _ _ _ _ _ _ => ?_
  have hs6 := d6.ok.size
  refine wr64 (by omega) ?_
  intro _
  refine st17 d6 o6 rfl fun w7 q7 c7 k7 str7 d7 o7 _ _ _ _ _ _ _ _ _ => ?_
  have k7' : Kp (fun i => w2.heap.size ≤ i) w2 w7 := k6'.trans (k7.mono fun _ _ h => h.elim)
  have str5' := (str5.next k6 g6).kp0 k7
  rw [same6] at str7
  refine ⟨bytesOf s4, by rw [bytesOf_size], str5'.1, bytesOf s4, by rw [bytesOf_size, sz6], str7.1, ?_⟩
  rw [beq_self_eq_true]
  show cond false _ _
  simp only [cond_false]
  intro _
  refine st20 d7 o7 k7'.size n6 (Ints.far hx2.bytes k7' (Nat.le_refl _)) hx.byte (fun h0 => blk_far (qbE h0) n6) (by rw [wt6]; simp) x.x fun i8 w8 col8 k8 g8 d8 o8 n8 _ _ _ _ _ _ _ _ _ => ?_
  have k8' : Kp (fun i => w2.heap.size ≤ i) w2 w8 := k7'.trans (k8.mono fun i _ hi => n6 i hi)
  have hs8 := d8.ok.size
  have wt8 : (writeIf s6 x.x x.nb x.b).wait.length ≤ 8 := by
    unfold writeIf
    split
    · rw [write_wait, wt6]; unfold hiF loF; simp; omega
    · rw [wt6]; simp
  intro _
  refine st18 d8 o8 fun _ _ _ _ _ _ _ _ _ => ?_
  refine wr64 (by omega) ?_
  intro _
  refine st17 d8 o8 rfl fun w9 q9 c9 k9 str9 d9 o9 _ _ _ _ _ _ _ _ _ => ?_
  have k9' : Kp (fun i => w2.heap.size ≤ i) w2 w9 := k8'.trans (k9.mono fun _ _ h => h.elim)
  intro _
  refine st18 d9 o9 fun _ _ _ _ _ _ _ _ _ => ?_
  intro _
  refine st21 d9 o9 fun _ _ _ _ _ _ _ _ _ => ?_
  obtain ⟨i4, i41, i42, i43, i44⟩ := info4
  refine make_own (n := (writeIf s6 x.x x.nb x.b).wait.length) Try.underlying31 ⟨i4, .bool false, i41, i42, i43, rfl, by omega, fun w10 r10 k10 => ?_⟩ (by omega)
  have k10' : Kp (fun i => w2.heap.size ≤ i) w2 w10 := k9'.trans (k10.mono fun _ _ h => h.elim)
  have d10 := d9.kp0 k10
  have hd9 := d9.dlt
  rw [boolL_all] at r10
  refine ⟨_, _, _, rfl, k10.keeps (fun b hb => ⟨?_, id⟩), ?_⟩
  · simp at hb
    rcases hb with rfl | rfl | rfl
    · exact (o9 _ (by simp)).1
    · exact hd9
    · exact (o9 _ (by simp)).1
  refine ⟨fun i w' => ∃ j : Nat, i = j ∧ j ≤ (writeIf s6 x.x x.nb x.b).wait.length ∧ Kp none_ w9 w' ∧ OwnRow w' (fresh w9) 4 1 (.slice (some ⟨w9.heap.size, 0, none⟩) (writeIf s6 x.x x.nb x.b).wait.length (writeIf s6 x.x x.nb x.b).wait.length) (writeIf s6 x.x x.nb x.b).wait.length (boolL (fun l => decide (l < j)) (writeIf s6 x.x x.nb x.b).wait.length), fun i _ => ((writeIf s6 x.x x.nb x.b).wait.length - i).toNat, ⟨0, rfl, by omega, k10, r10⟩, ?_⟩
  rintro i w11 ⟨j, rfl, hj, k11, r11⟩
  intro _
  refine bif_dec (fun hlt => ⟨by omega, ?_⟩) (fun hge => ⟨by omega, ?_⟩)
  · obtain ⟨g, e, hog, hu, hfz, hset⟩ := OwnRow.setAt r11 (i := j) (by omega)
    cases e
    obtain ⟨r12, k12⟩ := hset (.bool true)
    have hX9 := (o9 W.heap.size (by simp)).1
    have hm9 := (o9 m (by simp)).1
    simp only [ptr_some, ad_add, Nat.mul_one, Nat.zero_add, Nat.add_zero, Int.toNat_natCast]
    refine ⟨hu, hfz, .inl (by show w9.heap.size ≠ _; omega), .inl (by show w9.heap.size ≠ _; omega), .inl (by show w9.heap.size ≠ _; omega), wr64 (by omega) ⟨rfl, ⟨j + 1, by omega, by omega, k11.then k12 (fun i hi hh => by unfold fresh at hh; omega), ?_⟩, by first | omega | (dsimp only; omega)⟩⟩
    rw [boolL_set] at r12
    have e : (fun l => if l = j then true else decide (l < j)) = fun l => decide (l < j + 1) := funext fun l => by
      by_cases c : l = j
      · rw [if_pos c]; symm; exact decide_eq_true (by omega)
      · rw [if_neg c]
        by_cases c2 : l < j
        · rw [decide_eq_true c2]; symm; exact decide_eq_true (by omega)
        · rw [decide_eq_false c2]; symm; exact decide_eq_false (by omega)
    rw [e] at r12
    exact r12
  have hjN : j = (writeIf s6 x.x x.nb x.b).wait.length := by omega
  subst hjN
  have d11 := d9.kp0 k11
  have o11 : Out w11 col8 [W.heap.size, m] := fun b hb => ⟨Nat.lt_of_lt_of_le (o9 b hb).1 k11.size, (o9 b hb).2⟩
  have k11' : Kp (fun i => w2.heap.size ≤ i) w2 w11 := k9'.trans (k11.mono fun _ _ h => h.elim)
  have str11 := str9.kp0 k11
  have hbw : Bools w11 (some ⟨w9.heap.size, 0, none⟩) (writeIf s6 x.x x.nb x.b).wait.length (fun l => decide (l < (writeIf s6 x.x x.nb x.b).wait.length)) := fun l hl => by
    obtain ⟨a, e, hc⟩ := r11.at (boolL_get _ hl)
    exact ⟨a, e, hc⟩
  have hc9 : col8 w9.heap.size = 0 := by
    by_cases c : col8 w9.heap.size = 0
    · exact c
    · have := d9.lt _ c; omega
  have fin : ∀ {w' : World}, Kp (fun i => w2.heap.size ≤ i) w2 w' → Kp none_ W w' := fun k => k2.then k fun i hi hh => by omega
  have e6 : ((512 * s6.size : Nat) : Int).tdiv 512 = s6.size := by rw [Int.tdiv_eq_ediv_of_nonneg (by omega)]; omega
  rw [e6]
  refine wr64 (by omega) ?_
  refine bif_eq (fun hsame => ?_) (fun hdiff => ?_)
  rotate_left
  · intro _
    refine tail4 (R := fun e w' => ∃ v, e = Ending.returned v ∧ v = Value.bool true ∧ Kp none_ W w') d11 (o11 _ (by simp)) (o11 _ (by simp)) k11'.size n8 (bools k11') qkE hx.fill (by omega) rfl fun w' k' => ⟨_, rfl, rfl, fin (k11'.trans k')⟩
  intro _
  refine st19 d11 o11 k11'.size n8 hbw (fun _ a ha => by cases ha; exact hc9) hx.fill (by omega) fun w12 col12 k12 g12 d12 o12 n12 _ _ _ _ _ _ _ _ _ => ?_
  have k12' : Kp (fun i => w2.heap.size ≤ i) w2 w12 := k11'.trans (k12.mono fun i _ hi => n8 i hi)
  have sz12 := crash_size (writeIf s6 x.x x.nb x.b) (writeIf s6 x.x x.nb x.b).wait.length (fun l => decide (l < (writeIf s6 x.x x.nb x.b).wait.length)) x.fill
  have same12 : bytesOf (crashSt (writeIf s6 x.x x.nb x.b) (writeIf s6 x.x x.nb x.b).wait.length (fun l => decide (l < (writeIf s6 x.x x.nb x.b).wait.length)) x.fill) = bytesOf (writeIf s6 x.x x.nb x.b) := by
    unfold bytesOf
    rw [sz12]
    refine read_str sz12 (fun p p0 p1 => ?_) _ (by omega)
    rw [sz12] at p1
    revert p1 hsame
    unfold writeIf
    split
    · rename_i hw
      intro hsame p1
      rw [write_size] at p1 hsame
      have hr := hw.1
      unfold rightF at hr
      have hr' := of_decide_eq_true hr
      exact crash_all sy6' hr'.1 hw.2 (by omega) _ (by rw [write_wait]; omega) _ (fun i hi => decide_eq_true hi) _ p0 (by omega)
    · intro _ p1
      exact crash_synced sy6' _ _ _ p0 p1
  have wt12 : (crashSt (writeIf s6 x.x x.nb x.b) (writeIf s6 x.x x.nb x.b).wait.length (fun l => decide (l < (writeIf s6 x.x x.nb x.b).wait.length)) x.fill).wait = [] := rfl
  generalize crashSt (writeIf s6 x.x x.nb x.b) (writeIf s6 x.x x.nb x.b).wait.length (fun l => decide (l < (writeIf s6 x.x x.nb x.b).wait.length)) x.fill = s12 at *
  intro _
  refine st18 d12 o12 fun _ _ _ _ _ _ _ _ _ => ?_
  have hs12 := d12.ok.size
  refine wr64 (by omega) ?_
  intro _
  refine st17 d12 o12 rfl fun w13 q13 c13 k13 str13 d13 o13 _ _ _ _ _ _ _ _ _ => ?_
  have k13' : Kp (fun i => w2.heap.size ≤ i) w2 w13 := k12'.trans (k13.mono fun _ _ h => h.elim)
  have str11' := (str11.next k12 g12).kp0 k13
  rw [same12] at str13
  refine ⟨bytesOf (writeIf s6 x.x x.nb x.b), by rw [bytesOf_size], str11'.1, bytesOf (writeIf s6 x.x x.nb x.b), by rw [bytesOf_size, sz12], str13.1, ?_⟩
  rw [beq_self_eq_true]
  show cond false _ _
  simp only [cond_false]
  intro _
  refine tail4 (R := fun e w' => ∃ v, e = Ending.returned v ∧ v = Value.bool true ∧ Kp none_ W w') d13 (o13 _ (by simp)) (o13 _ (by simp)) k13'.size n12 (bools k13') qkE hx.fill (by rw [wt12]; simp) (by rw [sz12]) fun w' k' => ⟨_, rfl, rfl, fin (k13'.trans k')⟩
end
end Go.Proofs.Ytlgkcbdpaffigaa
