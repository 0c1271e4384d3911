/- What the row needs, part 3. -/
import Derived.Shelf.Small.Strs
import Derived.Shelf.Strings.Split
import Derived.Test.YtbpknjldphckgaaDoorProg
import Derived.Test.YtbpknjldphckgaaDoorRows
import Derived.Test.YtbpknjldphckgaaDoorTie
import Derived.Test.YtbpknjldphckgaaDoorCards
import Derived.ProofKit
import Derived.OpenShut
import Derived.LaidMore
import Derived.Lay
import Derived.SevenTiedAt
import Derived.Stop.Joined
import Derived.HandedShaped
import Derived.Shelf.Vars
import Derived.ChangeMaps5
import Derived.Test.YtbpknjldphckgaaDoorXsb
namespace Go.Proofs
open Go.Shelf
def Tryd.lays106_ren : Go.Shelf.Ren := ⟨fun | 106 => 167 | 213 => 186 | 265 => 198 | n => n, fun | 9 => 9 | 3 => 3 | n => n, fun | n => n⟩
theorem Tryd.lays106 : Go.Proofs.Lays.n106 Tryd.prog Tryd.lays106_ren := {
  mixed := by kernel_rfl
  f106 := Tryd.func167.trans (congrArg some (by kernel_rfl))
  f213 := Tryd.func186.trans (congrArg some (by kernel_rfl))
  f265 := Tryd.func198.trans (congrArg some (by kernel_rfl))
  t3 := Tryd.underlying3
  a3 := Tryd.isAgg3
  z3 := Tryd.sizeOf3
  v3 := Tryd.zeroValue3
  t9 := Tryd.underlying9
  a9 := Tryd.isAgg9
  z9 := Tryd.sizeOf9
  v9 := Tryd.zeroValue9 }
open Go.RowKit in
theorem Tryd.strings_Compare (a b : ByteArray) (w : World) :
    Calls Tryd.prog 167 #[.string a, .string b] w fun e w' => e = .returned (.int .i64 (Lib.compareBytes a.data.toList b.data.toList)) ∧ w' = w := Any.strings_Compare Tryd.lays106 a b w
def Tryd.lays146_ren : Go.Shelf.Ren := ⟨fun | 146 => 154 | 221 => 184 | 268 => 195 | 138 => 196 | 143 => 197 | 195 => 207 | 197 => 208 | 218 => 209 | 219 => 210 | 260 => 214 | 217 => 215 | 225 => 216 | 224 => 217 | 267 => 218 | 266 => 220 | 314 => 221 | n => n, fun | 9 => 9 | 31 => 46 | 3 => 3 | 4 => 4 | 0 => 0 | 105 => 230 | 21 => 21 | 5 => 5 | 46 => 191 | 119 => 235 | 139 => 238 | 138 => 237 | 146 => 239 | 51 => 23 | n => n, fun | 1 => 0 | 3 => 1 | 4 => 2 | n => n⟩
theorem Tryd.lays146 : Go.Proofs.Lays.n146 Tryd.prog Tryd.lays146_ren := {
  mixed := by kernel_rfl
  f138 := Tryd.func196.trans (congrArg some (by kernel_rfl))
  f143 := Tryd.func197.trans (congrArg some (by kernel_rfl))
  f146 := Tryd.func154.trans (congrArg some (by kernel_rfl))
  f195 := Tryd.func207.trans (congrArg some (by kernel_rfl))
  f197 := Tryd.func208.trans (congrArg some (by kernel_rfl))
  f217 := Tryd.func215.trans (congrArg some (by kernel_rfl))
  f218 := Tryd.func209.trans (congrArg some (by kernel_rfl))
  f219 := Tryd.func210.trans (congrArg some (by kernel_rfl))
  f221 := Tryd.func184.trans (congrArg some (by kernel_rfl))
  f224 := Tryd.func217.trans (congrArg some (by kernel_rfl))
  f225 := Tryd.func216.trans (congrArg some (by kernel_rfl))
  f260 := Tryd.func214.trans (congrArg some (by kernel_rfl))
  f266 := Tryd.func220.trans (congrArg some (by kernel_rfl))
  f267 := Tryd.func218.trans (congrArg some (by kernel_rfl))
  f268 := Tryd.func195.trans (congrArg some (by kernel_rfl))
  f314 := Tryd.func221.trans (congrArg some (by kernel_rfl))
  t0 := Tryd.underlying0
  a0 := Tryd.isAgg0
  z0 := Tryd.sizeOf0
  v0 := Tryd.zeroValue0
  t3 := Tryd.underlying3
  a3 := Tryd.isAgg3
  z3 := Tryd.sizeOf3
  v3 := Tryd.zeroValue3
  t4 := Tryd.underlying4
  a4 := Tryd.isAgg4
  z4 := Tryd.sizeOf4
  v4 := Tryd.zeroValue4
  t5 := Tryd.underlying5
  a5 := Tryd.isAgg5
  z5 := Tryd.sizeOf5
  v5 := Tryd.zeroValue5
  t9 := Tryd.underlying9
  a9 := Tryd.isAgg9
  z9 := Tryd.sizeOf9
  v9 := Tryd.zeroValue9
  t21 := Tryd.underlying21
  a21 := Tryd.isAgg21
  z21 := Tryd.sizeOf21
  v21 := Tryd.zeroValue21
  t31 := Tryd.underlying46
  a31 := Tryd.isAgg46
  z31 := Tryd.sizeOf46
  v31 := Tryd.zeroValue46
  t46 := Tryd.underlying191
  a46 := Tryd.isAgg191
  z46 := Tryd.sizeOf191
  v46 := Tryd.zeroValue191
  t51 := Tryd.underlying23
  a51 := Tryd.isAgg23
  z51 := Tryd.sizeOf23
  v51 := Tryd.zeroValue23
  t105 := Tryd.underlying230
  a105 := Tryd.isAgg230
  z105 := Tryd.sizeOf230
  v105 := Tryd.zeroValue230
  t119 := Tryd.underlying235
  a119 := Tryd.isAgg235
  z119 := Tryd.sizeOf235
  t138 := Tryd.underlying237
  a138 := Tryd.isAgg237
  z138 := Tryd.sizeOf237
  v138 := Tryd.zeroValue237
  t139 := Tryd.underlying238
  a139 := Tryd.isAgg238
  z139 := Tryd.sizeOf238
  v139 := Tryd.zeroValue238
  t146 := Tryd.underlying239
  a146 := Tryd.isAgg239
  z146 := Tryd.sizeOf239
  v146 := Tryd.zeroValue239
  g1 := by kernel_rfl
  g3 := by kernel_rfl
  g4 := by kernel_rfl }
open Go.RowKit Go.Lib in
theorem Tryd.strings_Split (s sep : ByteArray) (m : Int) (w : World) (hs : s.size < 4294967281) (hm : w.cell? ⟨0, 0, none⟩ = some (.int .i64 m)) (h1 : 1 ≤ sep.size) :
    Calls Tryd.prog 154 #[.string s, .string sep] w fun e w' =>
      e = .returned (.slice (some ⟨w.heap.size, 0, none⟩) (Lib.countB s sep + 1) (Lib.countB s sep + 1)) ∧ w' = w.alloc (.cells ((Lib.splitB sep 0 (Lib.countB s sep) s).map Value.string).toArray 9) := Any.strings_Split Tryd.lays146 (by kernel_rfl) s sep m w hs hm h1
end Go.Proofs

namespace Go.Proofs.YtbpknjldphckgaaDoor
open Go Go.SX Go.Proofs
set_option maxRecDepth 100000
set_option linter.unusedVariables false
def VCTryd29 (p0 : ByteArray) (w : World) (R : Ending → World → Prop) : Prop :=
bif decide ((↑p0.size : Int) < (1 : Int)) then R (Ending.returned (Value.bool false)) w
else
 bif decide ((↑p0.size : Int) > (64 : Int)) then R (Ending.returned (Value.bool false)) w
 else
  ∃ (I0 : Int → World → Prop),
   ∃ (I1 : Int → World → Nat),
    I0 (0 : Int) w ∧
     ∀ (i2 : Int) (w3 : World),
      I0 i2 w3 →
       bif decide (i2 < (↑p0.size : Int)) then
        ((0 : Int) ≤ i2 ∧ i2 < (↑p0.size : Int)) ∧
         bif decide (byteAt p0 i2 < (33 : Int)) then R (Ending.returned (Value.bool false)) w3
         else
          ((0 : Int) ≤ i2 ∧ i2 < (↑p0.size : Int)) ∧
           bif decide (byteAt p0 i2 > (126 : Int)) then R (Ending.returned (Value.bool false)) w3 else Wr IntKind.i64 (i2 + (1 : Int)) fun (i4 : Int) => I0 i4 w3 ∧ I1 i4 w3 < I1 i2 w3
       else
        Rets Tryd.prog (107 : Nat) #[Value.string p0] w3 fun (v5 : Value) (w6 : World) =>
         ∃ (q7 : Option Addr),
          ∃ (n8 : Nat),
           ∃ (n9 : Nat),
            v5 = Value.slice q7 n8 n9 ∧
             Keeps w3 w6 [] ∧
              ∃ (I10 : Int → World → Prop),
               ∃ (I11 : Int → World → Nat),
                I10 (0 : Int) w6 ∧
                 ∀ (i12 : Int) (w13 : World),
                  I10 i12 w13 →
                   bif decide (i12 < (↑n8 : Int)) then
                    ((0 : Int) ≤ i12 ∧ i12 < (↑n8 : Int)) ∧
                     SX.Ptr q7 fun (a14 : Addr) =>
                      ∃ (s15 : ByteArray),
                       w13.cell? (a14.add (i12.toNat * (1 : Nat))) = some (Value.string s15) ∧
                        bif s15.toList == ({ data := #[] } : ByteArray).toList then R (Ending.returned (Value.bool false)) w13
                        else
                         ((0 : Int) ≤ i12 ∧ i12 < (↑n8 : Int)) ∧
                          SX.Ptr q7 fun (a16 : Addr) =>
                           ∃ (s17 : ByteArray),
                            w13.cell? (a16.add (i12.toNat * (1 : Nat))) = some (Value.string s17) ∧
                             bif s17.toList == ({ data := #[(46 : UInt8)] } : ByteArray).toList then R (Ending.returned (Value.bool false)) w13
                             else
                              ((0 : Int) ≤ i12 ∧ i12 < (↑n8 : Int)) ∧
                               SX.Ptr q7 fun (a18 : Addr) =>
                                ∃ (s19 : ByteArray),
                                 w13.cell? (a18.add (i12.toNat * (1 : Nat))) = some (Value.string s19) ∧
                                  bif s19.toList == ({ data := #[(46 : UInt8), (46 : UInt8)] } : ByteArray).toList then R (Ending.returned (Value.bool false)) w13
                                  else Wr IntKind.i64 (i12 + (1 : Int)) fun (i20 : Int) => I10 i20 w13 ∧ I11 i20 w13 < I11 i12 w13
                   else R (Ending.returned (Value.bool true)) w13
theorem vcTryd29 (p0 : ByteArray) (w : World) (R : Ending → World → Prop) : SX.vcFn Tryd.prog [(10, ⟨[(5, .int .i64)], [4], []⟩), (4, ⟨[(3, .int .i64)], [0], []⟩)] Tryd.f29 [.v (.string p0)] [] w R = VCTryd29 p0 w R := by kernel_rfl
def VCTryd104 (p0 : ByteArray) (w : World) (R : Ending → World → Prop) : Prop :=
bif decide ((↑p0.size : Int) ≤ (64 : Int)) then
 Rets Tryd.prog (154 : Nat) #[Value.string p0, Value.string { data := #[(47 : UInt8)] }] w fun (v0 : Value) (w1 : World) =>
  ∃ (q2 : Option Addr),
   ∃ (n3 : Nat),
    ∃ (n4 : Nat),
     v0 = Value.slice q2 n3 n4 ∧
      Keeps w w1 [] ∧
       Rets Tryd.prog (153 : Nat) #[Value.slice q2 n3 n4, Value.func (Fn.func (155 : Nat)) #[] #[]] w1 fun (v5 : Value) (w6 : World) =>
        ∃ (t7 : Bool), v5 = Value.bool t7 ∧ Keeps w1 w6 [] ∧ R (Ending.returned (Value.bool !t7)) w6
else R (Ending.returned (Value.bool false)) w
theorem vcTryd104 (p0 : ByteArray) (w : World) (R : Ending → World → Prop) : SX.vcFn Tryd.prog [] Tryd.f104 [.v (.string p0)] [] w R = VCTryd104 p0 w R := by kernel_rfl
def VCTryd107 (p0 : ByteArray) (w : World) (R : Ending → World → Prop) : Prop :=
∃ (I0 : Int → Int → Option Addr → Nat → Nat → World → Prop),
 ∃ (I1 : Int → Int → Option Addr → Nat → Nat → World → Nat),
  I0 (0 : Int) (0 : Int) none (0 : Nat) (0 : Nat) w ∧
   ∀ (i2 i3 : Int) (q4 : Option Addr) (n5 n6 : Nat) (w7 : World),
    I0 i2 i3 q4 n5 n6 w7 →
     bif decide (i2 < (↑p0.size : Int)) then
      ((0 : Int) ≤ i2 ∧ i2 < (↑p0.size : Int)) ∧
       bif byteAt p0 i2 == (47 : Int) then
        ((0 : Int) ≤ i2 ∧ i2 ≤ (↑p0.size : Int)) ∧
         ((0 : Int) ≤ i3 ∧ i3 ≤ (↑i2.toNat : Int)) ∧
          Runs Tryd.prog (Builtin.append_ #[(46 : Nat), (46 : Nat)] (46 : Nat) #[Value.slice q4 n5 n6, Value.slice (some { block := w7.heap.size, off := (0 : Nat) }) (1 : Nat) (1 : Nat)])
           (w7.alloc (Obj.cells #[Value.string (p0.extract i3.toNat i2.toNat)] (9 : Nat))) fun (v8 : Value) (w9 : World) =>
           ∃ (q10 : Option Addr),
            ∃ (n11 : Nat),
             ∃ (n12 : Nat),
              v8 = Value.slice q10 n11 n12 ∧
               Keeps (w7.alloc (Obj.cells #[Value.string (p0.extract i3.toNat i2.toNat)] (9 : Nat))) w9 [] ∧
                Wr IntKind.i64 (i2 + (1 : Int)) fun (i13 : Int) => Wr IntKind.i64 (i2 + (1 : Int)) fun (i14 : Int) => I0 i14 i13 q10 n11 n12 w9 ∧ I1 i14 i13 q10 n11 n12 w9 < I1 i2 i3 q4 n5 n6 w7
       else Wr IntKind.i64 (i2 + (1 : Int)) fun (i15 : Int) => I0 i15 i3 q4 n5 n6 w7 ∧ I1 i15 i3 q4 n5 n6 w7 < I1 i2 i3 q4 n5 n6 w7
     else
      ((0 : Int) ≤ i3 ∧ i3 ≤ (↑p0.size : Int)) ∧
       Runs Tryd.prog (Builtin.append_ #[(46 : Nat), (46 : Nat)] (46 : Nat) #[Value.slice q4 n5 n6, Value.slice (some { block := w7.heap.size, off := (0 : Nat) }) (1 : Nat) (1 : Nat)])
        (w7.alloc (Obj.cells #[Value.string (p0.extract i3.toNat p0.size)] (9 : Nat))) fun (v16 : Value) (w17 : World) =>
        ∃ (q18 : Option Addr),
         ∃ (n19 : Nat),
          ∃ (n20 : Nat), v16 = Value.slice q18 n19 n20 ∧ Keeps (w7.alloc (Obj.cells #[Value.string (p0.extract i3.toNat p0.size)] (9 : Nat))) w17 [] ∧ R (Ending.returned (Value.slice q18 n19 n20)) w17
theorem vcTryd107 (p0 : ByteArray) (w : World) (R : Ending → World → Prop) : SX.vcFn Tryd.prog [(4, ⟨[(5, .int .i64), (4, .int .i64), (3, .slice)], [0], []⟩)] Tryd.f107 [.v (.string p0)] [] w R = VCTryd107 p0 w R := by kernel_rfl
def VCTryd153 (p0 : Option Addr) (n0 c0 : Nat) (p1 : Value) (w : World) (R : Ending → World → Prop) : Prop :=
Rets Tryd.prog (183 : Nat) #[Value.slice p0 n0 c0, p1] w fun (v0 : Value) (w1 : World) => ∃ (i2 : Int), v0 = Value.int IntKind.i64 i2 ∧ Keeps w w1 [] ∧ R (Ending.returned (Value.bool (decide (i2 ≥ (0 : Int))))) w1
theorem vcTryd153 (p0 : Option Addr) (n0 c0 : Nat) (p1 : Value) (w : World) (R : Ending → World → Prop) : SX.vcFn Tryd.prog [] Tryd.f153 [.v (.slice p0 n0 c0), .v p1] [] w R = VCTryd153 p0 n0 c0 p1 w R := by kernel_rfl
def VCTryd155 (p0 : ByteArray) (w : World) (R : Ending → World → Prop) : Prop :=
Rets Tryd.prog (156 : Nat) #[Value.string p0] w fun (v0 : Value) (w1 : World) => ∃ (t2 : Bool), v0 = Value.bool t2 ∧ Keeps w w1 [] ∧ R (Ending.returned (Value.bool !t2)) w1
theorem vcTryd155 (p0 : ByteArray) (w : World) (R : Ending → World → Prop) : SX.vcFn Tryd.prog [] Tryd.f155 [.v (.string p0)] [] w R = VCTryd155 p0 w R := by kernel_rfl
def VCTryd156 (p0 : ByteArray) (w : World) (R : Ending → World → Prop) : Prop :=
Runs Tryd.prog (Instr.range (9 : Nat) (Value.string p0)) w fun (v0 : Value) (w1 : World) =>
 ∃ (q2 : Option Addr),
  v0 = Value.pointer q2 ∧
   Keeps w w1 [] ∧
    ∃ (I3 : World → Prop),
     ∃ (I4 : World → Nat),
      I3 w1 ∧
       ∀ (w5 : World),
        I3 w5 →
         Runs Tryd.prog (Instr.next (Value.pointer q2) true (0 : Nat)) w5 fun (v6 : Value) (w7 : World) =>
          (v6 = Value.tuple #[Value.bool false] ∧
            Keeps w5 w7 [] ∧
             bif !p0.toList == ({ data := #[] } : ByteArray).toList then
              bif !p0.toList == ({ data := #[(46 : UInt8)] } : ByteArray).toList then R (Ending.returned (Value.bool !p0.toList == ({ data := #[(46 : UInt8), (46 : UInt8)] } : ByteArray).toList)) w7
              else R (Ending.returned (Value.bool false)) w7
             else R (Ending.returned (Value.bool false)) w7) ∨
           ∃ (i8 : Int),
            ∃ (i9 : Int),
             v6 = Value.tuple #[Value.bool true, Value.int IntKind.i64 i8, Value.int IntKind.i32 i9] ∧
              Keeps w5 w7 [] ∧
               bif decide (i9 < (33 : Int)) then R (Ending.returned (Value.bool false)) w7 else bif decide (i9 > (126 : Int)) then R (Ending.returned (Value.bool false)) w7 else I3 w7 ∧ I4 w7 < I4 w5
theorem vcTryd156 (p0 : ByteArray) (w : World) (R : Ending → World → Prop) : SX.vcFn Tryd.prog [(2, ⟨[], [0, 6], []⟩)] Tryd.f156 [.v (.string p0)] [] w R = VCTryd156 p0 w R := by kernel_rfl
def VCTryd183 (p0 : Option Addr) (n0 c0 : Nat) (p1 : Value) (w : World) (R : Ending → World → Prop) : Prop :=
∃ (I0 : Int → World → Prop),
 ∃ (I1 : Int → World → Nat),
  I0 (0 : Int) w ∧
   ∀ (i2 : Int) (w3 : World),
    I0 i2 w3 →
     bif decide (i2 < (↑n0 : Int)) then
      ((0 : Int) ≤ i2 ∧ i2 < (↑n0 : Int)) ∧
       SX.Ptr p0 fun (a4 : Addr) =>
        ∃ (s5 : ByteArray),
         w3.cell? (a4.add (i2.toNat * (1 : Nat))) = some (Value.string s5) ∧
          CallsVal Tryd.prog p1 #[Value.string s5] w3 fun (v6 : Value) (w7 : World) =>
           ∃ (t8 : Bool),
            v6 = Value.bool t8 ∧ Keeps w3 w7 [] ∧ bif t8 then R (Ending.returned (Value.int IntKind.i64 i2)) w7 else Wr IntKind.i64 (i2 + (1 : Int)) fun (i9 : Int) => I0 i9 w7 ∧ I1 i9 w7 < I1 i2 w3
     else R (Ending.returned (Value.int IntKind.i64 (-1 : Int))) w3
theorem vcTryd183 (p0 : Option Addr) (n0 c0 : Nat) (p1 : Value) (w : World) (R : Ending → World → Prop) : SX.vcFn Tryd.prog [(2, ⟨[(8, .int .i64)], [0, 1, 7], []⟩)] Tryd.f183 [.v (.slice p0 n0 c0), .v p1] [] w R = VCTryd183 p0 n0 c0 p1 w R := by kernel_rfl
end Go.Proofs.YtbpknjldphckgaaDoor

namespace Go.Proofs.YtbpknjldphckgaaDoor
open Go Go.SX Go.Proofs Go.Lib
set_option maxRecDepth 100000
set_option linter.unusedVariables false
set_option linter.unusedSimpArgs false
theorem noNGp : noNG Tryd.prog := by
  have h : (Tryd.prog.funcs.toList.all (fun fn => !(fn.name == "runtime.NumGoroutine"))) = true := by kernel_rfl
  exact h
theorem mixed : Tryd.prog.follows .mixedOrders = true := by kernel_rfl
theorem ent {k : FuncId} {fn : Func} {ann : List (Nat × LoopAnn)} {w : World} {R : Value → World → Prop} (args : List Value) (hf : Tryd.prog.funcs[k]? = some fn)
    (h : vcFn Tryd.prog ann fn (args.map SV.v) [] w (fun e w' => ∃ v, e = .returned v ∧ R v w')) : Rets Tryd.prog k args.toArray w R := by
  have := vcFn_sound noNGp mixed hf Sat.plain h
  simp only [List.map_map] at this
  have e : args.map (SV.val ∘ SV.v) = args := by
    rw [show (SV.val ∘ SV.v) = id from rfl]; simp
  rw [e] at this
  exact this
theorem ptr_some (a : Addr) (K : Addr → Prop) : Ptr (some a) K = K a := rfl
theorem byte5 : byteT Tryd.prog 5 := by
  have h : (Tryd.prog.info? 5).map (fun i => (i.zero, i.size, i.bytes)) = some (some (.int .u8 0), 1, 1) := by kernel_rfl
  obtain ⟨i, hi, hh⟩ := Option.map_eq_some_iff.1 h
  simp only [Prod.mk.injEq] at hh
  exact ⟨i, hi, hh⟩
theorem und27 : Tryd.prog.underlying 27 = some (.slice 5) := Tryd.underlying27
theorem drop_get {l : List UInt8} {a i : Nat} (h : a + i < l.length) : (l.drop a).take (i + 1) = (l.drop a).take i ++ [l[a + i]] := by
  rw [List.take_succ_eq_append_getElem (by rw [List.length_drop]; omega)]
  simp
/-- A variable of the library's holds some number. -/
def ML (w : World) : Prop := ∃ m, w.cell? ⟨0, 0, none⟩ = some (.int .i64 m)
theorem ML.kp0 {w w' : World} (h : ML w) (hk : Kp none_ w w') : ML w' := by obtain ⟨m, h⟩ := h; exact ⟨m, hk.cell0 h⟩
theorem ML.far {w w' : World} {E : Nat} (h : ML w) (hk : Kp (fun i => E ≤ i) w w') (hE : w.heap.size ≤ E) : ML w' := by obtain ⟨m, h⟩ := h; exact ⟨m, cell_far h hk hE⟩
theorem ML.kp {S : Nat → Prop} {w w' : World} (h : ML w) (hk : Kp S w w') (hs : ¬ S 0) : ML w' := by obtain ⟨m, h⟩ := h; exact ⟨m, hk.cell h hs⟩
abbrev bytesL (s : ByteArray) : List UInt8 := s.data.toList
theorem bytesL_size (s : ByteArray) : (bytesL s).length = s.size := by simp
theorem beq_str (s t : ByteArray) : (s.toList == t.toList) = (bytesL s == bytesL t) := by rw [ByteArray.toList_eq, ByteArray.toList_eq]
theorem bytesL_get {s : ByteArray} {i : Nat} (h : i < s.size) : s[i] = (bytesL s)[i]'(by rw [bytesL_size]; exact h) := by
  cases s with
  | mk bs => rfl
theorem und9 : Tryd.prog.underlying 9 = some .string := Tryd.underlying9
theorem all_drop {f : UInt8 → Bool} {l : List UInt8} {j : Nat} (h : j < l.length) (h1 : (l.take j).all f = true) (h2 : f l[j] = false) : l.all f = false := by
  rw [← Bool.not_eq_true, List.all_eq_true]
  intro hh
  have := hh l[j] (List.getElem_mem h)
  rw [this] at h2; cases h2
theorem c156 (s : ByteArray) (w : World) : Rets Tryd.prog 156 #[.string s] w fun v w' => v = .bool (okPart (bytesL s)) ∧ Kp none_ w w' := by
  refine ent [_] Tryd.func156 ((vcTryd156 _ w _).mpr ?_)
  unfold VCTryd156
  refine range_str und9 ⟨_, rfl, ((Kp.refl none_ w).alloc1 _).keeps0, ?_⟩
  refine ⟨fun w' => ∃ j : Nat, j ≤ s.size ∧ w'.heap[w.heap.size]? = some (.stringIter s j) ∧ ((bytesL s).take j).all okByte = true ∧ Kp (fun i => w.heap.size ≤ i) w w', fun w' => s.size - w'.iterPos w.heap.size,
    ⟨0, by omega, by rw [alloc_get, if_pos rfl], by simp, ((Kp.refl _ w).alloc1 _)⟩, ?_⟩
  rintro w1 ⟨j, hj, hit, hall, k1⟩
  have hlt : w.heap.size < w1.heap.size := (Array.getElem?_eq_some_iff.1 hit).1
  refine next_str hit (fun hpos => ?_) (fun hend => ?_)
  · have kk : ∀ o : Obj, o.isCells = false → Kp (fun i => w.heap.size ≤ i) w (w1.putObj w.heap.size o) := fun o ho => k1.trans (Kp.putObj1 o hit rfl ho (Nat.le_refl _))
    have kp : ∀ o : Obj, Keeps w1 (w1.putObj w.heap.size o) [] := fun o => ⟨by rw [World.putObj_size]; exact Nat.le_refl _, fun b hb => by cases hb⟩
    have hjl : j < (bytesL s).length := by rw [bytesL_size]; exact hpos
    refine .inr ⟨_, _, rfl, kp _, ?_⟩
    have ret : okByte ((bytesL s)[j]) = false → ∀ o : Obj, o.isCells = false → ∃ v, Ending.returned (Value.bool false) = Ending.returned v ∧ v = .bool (okPart (bytesL s)) ∧ Kp none_ w (w1.putObj w.heap.size o) := fun h o ho => by
      refine ⟨_, rfl, ?_, (kk o ho).narrow (Nat.le_refl _)⟩
      unfold okPart
      rw [all_drop hjl hall h]
      simp
    have hb : s[j] = (bytesL s)[j] := bytesL_get hpos
    by_cases hlow : (s[j]).toNat < 128
    · rw [dec_low hpos hlow]
      rw [hb] at hlow ⊢
      refine bif_dec (fun h => ret ?_ _ rfl) (fun h => bif_dec (fun h' => ret ?_ _ rfl) (fun h' => ⟨⟨j + 1, by omega, ?_, ?_, kk _ rfl⟩, ?_⟩))
      · unfold okByte; exact decide_eq_false (by omega)
      · unfold okByte; exact decide_eq_false (by omega)
      · exact World.putObj_heap_same hlt
      · rw [List.take_succ_eq_append_getElem hjl, List.all_append, hall]
        have : okByte (bytesL s)[j] = true := by unfold okByte; exact decide_eq_true (by omega)
        simpa using this
      · have e1 : w1.iterPos w.heap.size = j := by simp [World.iterPos, hit]
        have e2 : (w1.putObj w.heap.size (.stringIter s (j + 1))).iterPos w.heap.size = j + 1 := by simp [World.iterPos, World.putObj_heap_same hlt]
        show s.size - (w1.putObj w.heap.size (.stringIter s (j + 1))).iterPos w.heap.size < s.size - w1.iterPos w.heap.size
        rw [e1, e2]; omega
    · have hd := (dec_high hpos hlow).1
      refine bif_dec (fun h => absurd h (by omega)) (fun h => bif_dec (fun h' => ret ?_ _ rfl) (fun h' => absurd (by omega) h'))
      rw [hb] at hlow
      unfold okByte; exact decide_eq_false (by omega)
  · refine .inl ⟨rfl, (Kp.refl none_ _).keeps0, ?_⟩
    have hjs : j = s.size := by omega
    rw [hjs, ← bytesL_size, List.take_length] at hall
    have kf := k1.narrow (Nat.le_refl _)
    simp only [beq_str]
    have e0 : bytesL ({ data := #[] } : ByteArray) = [] := rfl
    have e1 : bytesL ({ data := #[46] } : ByteArray) = [46] := rfl
    have e2 : bytesL ({ data := #[46, 46] } : ByteArray) = [46, 46] := rfl
    rw [e0, e1, e2]
    unfold okPart
    rw [hall]
    refine bif_not (fun h0 => bif_not (fun h1 => ⟨_, rfl, ?_, kf⟩) (fun h1 => ⟨_, rfl, ?_, kf⟩)) (fun h0 => ⟨_, rfl, ?_, kf⟩)
    · rw [h0, h1]; simp
    · rw [h1]; simp
    · rw [h0]; simp
/-- Strings in memory. -/
def Strs (w : World) (q : Option Addr) (ss : List ByteArray) : Prop := ∀ i (h : i < ss.length), ∃ a, q = some a ∧ w.cell? (a.add i) = some (.string ss[i])
theorem Strs.kp0 {w w' : World} {q : Option Addr} {ss : List ByteArray} (h : Strs w q ss) (hk : Kp none_ w w') : Strs w' q ss := fun i hi => by
  obtain ⟨a, e, hc⟩ := h i hi
  exact ⟨a, e, hk.cell0 hc⟩
theorem strs_get {w : World} {q : Option Addr} {ss : List ByteArray} (h : Strs w q ss) {i : Nat} (hi : i < ss.length) {K : Addr → ByteArray → Prop} (hK : ∀ a, q = some a → K a ss[i]) :
    Ptr q fun a => ∃ x, w.cell? (a.add ((i : Int).toNat * 1)) = some (.string x) ∧ K a x := by
  obtain ⟨a, e, hc⟩ := h i hi
  subst e
  rw [ptr_some]
  exact ⟨_, by rw [Nat.mul_one, Int.toNat_natCast]; exact hc, hK a rfl⟩
theorem c155 (s : ByteArray) (w : World) : Rets Tryd.prog 155 #[.string s] w fun v w' => v = .bool (!okPart (bytesL s)) ∧ Kp none_ w w' := by
  refine ent [_] Tryd.func155 ((vcTryd155 _ w _).mpr ?_)
  unfold VCTryd155
  refine (c156 s w).mono ?_
  rintro v w1 ⟨rfl, k1⟩
  exact ⟨_, rfl, k1.keeps0, _, rfl, rfl, k1⟩
theorem isGo155 : isGo Tryd.prog 155 = true := by kernel_rfl
theorem c183 {w : World} {q : Option Addr} {c : Nat} {ss : List ByteArray} (h : Strs w q ss) (hl : ss.length ≤ 1000000000) : Rets Tryd.prog 183 #[.slice q ss.length c, .func (.func 155) #[] #[]] w fun v w' =>
    (∃ i : Int, v = .int .i64 i ∧ (decide (i ≥ 0) = !(ss.all fun s => okPart (bytesL s)))) ∧ Kp none_ w w' := by
  refine ent [_, _] Tryd.func183 ((vcTryd183 _ _ _ _ w _).mpr ?_)
  unfold VCTryd183
  refine ⟨fun i w' => ∃ j : Nat, i = j ∧ j ≤ ss.length ∧ ((ss.take j).all fun s => okPart (bytesL s)) = true ∧ Kp none_ w w', fun i _ => (ss.length - i).toNat, ⟨0, rfl, by omega, by simp, Kp.refl _ _⟩, ?_⟩
  rintro i w1 ⟨j, rfl, hj, hall, k1⟩
  refine bif_dec (fun hlt => ⟨⟨by omega, hlt⟩, strs_get (h.kp0 k1) (i := j) (by omega) fun a ha => ?_⟩) (fun hge => ⟨_, rfl, ⟨_, rfl, ?_⟩, k1⟩)
  · have hj' : j < ss.length := by omega
    refine ⟨isGo155, ?_⟩
    show Rets Tryd.prog 155 #[.string ss[j]] w1 _
    refine (c155 _ w1).mono ?_
    rintro v w2 ⟨rfl, k2⟩
    refine ⟨_, rfl, k2.keeps0, bif_not (fun hp => ⟨_, rfl, ⟨_, rfl, ?_⟩, k1.trans k2⟩) (fun hp => wr64 (by omega) ⟨⟨j + 1, by omega, by omega, ?_, k1.trans k2⟩, by first | omega | (dsimp only; omega)⟩)⟩
    · have : (ss.all fun s => okPart (bytesL s)) = false := by
        rw [← Bool.not_eq_true, List.all_eq_true]
        intro hh
        have := hh ss[j] (List.getElem_mem hj')
        rw [this] at hp; cases hp
      rw [this]
      exact decide_eq_true (by omega)
    · rw [List.take_succ_eq_append_getElem hj', List.all_append, hall]
      simp [hp]
  · have : j = ss.length := by omega
    rw [this, List.take_length] at hall
    rw [hall]
    decide
theorem c153 {w : World} {q : Option Addr} {c : Nat} {ss : List ByteArray} (h : Strs w q ss) (hl : ss.length ≤ 1000000000) : Rets Tryd.prog 153 #[.slice q ss.length c, .func (.func 155) #[] #[]] w fun v w' =>
    v = .bool (!(ss.all fun s => okPart (bytesL s))) ∧ Kp none_ w w' := by
  refine ent [_, _] Tryd.func153 ((vcTryd153 _ _ _ _ w _).mpr ?_)
  unfold VCTryd153
  refine (c183 h hl).mono ?_
  rintro v w1 ⟨⟨i, rfl, hi⟩, k1⟩
  exact ⟨_, rfl, k1.keeps0, _, rfl, by rw [hi], k1⟩
theorem c104 {w : World} (hm : ML w) (s : ByteArray) : Rets Tryd.prog 104 #[.string s] w fun v w' => v = .bool (okName (bytesL s)) ∧ Kp none_ w w' := by
  refine ent [_] Tryd.func104 ((vcTryd104 _ w _).mpr ?_)
  unfold VCTryd104
  obtain ⟨m, hm⟩ := hm
  refine bif_dec (fun hle => ?_) (fun hgt => ⟨_, rfl, ?_, Kp.refl _ _⟩)
  · refine Calls.mono (Tryd.strings_Split s { data := #[47] } m w (by omega) hm (by decide)) ?_
    rintro e w1 ⟨rfl, rfl⟩
    have hp := splitB_parts 47 s
    have hlen := Go.Lib.splitB_all ({ data := #[47] } : ByteArray) (by decide) 0 _ s rfl
    generalize hss : Go.Lib.splitB ({ data := #[47] } : ByteArray) 0 (countB s { data := #[47] }) s = ss at *
    have k1 : Kp none_ w (w.alloc (.cells (ss.map Value.string).toArray 9)) := (Kp.refl none_ w).alloc1 _
    have hS : Strs (w.alloc (.cells (ss.map Value.string).toArray 9)) (some ⟨w.heap.size, 0, none⟩) ss := fun i hi => ⟨_, rfl, by
      rw [ad_add, Nat.zero_add]
      exact cell_alloc_new (by simp [hi])⟩
    have hcnt : ss.length ≤ 66 := by
      have := Go.Lib.splitB_length_le ({ data := #[47] } : ByteArray) 0 (countB s { data := #[47] }) s
      have h2 := Go.Lib.countB_le ({ data := #[47] } : ByteArray) (by decide) s.size s (Nat.le_refl _)
      omega
    refine ⟨_, rfl, _, _, _, rfl, k1.keeps0, ?_⟩
    rw [← hlen]
    refine (c153 hS (by omega)).mono ?_
    rintro v w2 ⟨rfl, k2⟩
    refine ⟨_, rfl, k2.keeps0, _, rfl, ?_, k1.trans k2⟩
    unfold okName
    rw [decide_eq_true (by rw [bytesL_size]; omega), ← hp, List.all_map]
    simp
    rfl
  · unfold okName
    rw [decide_eq_false (by rw [bytesL_size]; omega)]
    rfl
theorem bytesL_extract (s : ByteArray) (a b : Nat) : bytesL (s.extract a b) = ((bytesL s).drop a).take (b - a) := by
  show (s.extract a b).data.toList = _
  rw [ByteArray.data_extract, Array.toList_extract]
theorem byteAt_get {s : ByteArray} {i : Nat} (h : i < s.size) : byteAt s (i : Int) = ((bytesL s)[i]'(by rw [bytesL_size]; exact h)).toNat := by
  unfold byteAt
  rw [Int.toNat_natCast]
  have : s[i]? = some s[i] := getElem?_pos s i h
  rw [this, bytesL_get h]
theorem elem9 : elemOk Tryd.prog 9 1 = true := by kernel_rfl
theorem und46 : Tryd.prog.underlying 46 = some (.slice 9) := Tryd.underlying46
theorem strs_row {w : World} {own : Nat → Prop} {e : TypeId} {q : Option Addr} {n c : Nat} {ss : List ByteArray} (h : OwnRow w own e 1 (.slice q n c) ss.length (ss.map Value.string)) : Strs w q ss := fun i hi => by
  obtain ⟨a, e, hc⟩ := h.at (j := i) (u := .string ss[i]) (by simp [hi])
  exact ⟨a, e, hc⟩
theorem c107 (s : ByteArray) (hs : s.size ≤ 100000) (w : World) : Rets Tryd.prog 107 #[.string s] w fun v w' => ∃ q c ss, v = .slice q ss.length c ∧ Strs w' q ss ∧ ss.map bytesL = partsL 47 (bytesL s) ∧ ss.length ≤ s.size + 1 ∧ Kp none_ w w' := by
  refine ent [_] Tryd.func107 ((vcTryd107 _ w _).mpr ?_)
  unfold VCTryd107
  have hsz := bytesL_size s
  generalize hl : bytesL s = l at *
  refine ⟨fun i f q n c w' => ∃ (j g : Nat) (ss : List ByteArray), i = j ∧ f = g ∧ g ≤ j ∧ j ≤ s.size ∧ n = ss.length ∧ ss.length ≤ j ∧ OwnRow w' (fun i => w.heap.size ≤ i) 9 1 (.slice q ss.length c) ss.length (ss.map Value.string) ∧ (47 : UInt8) ∉ (l.drop g).take (j - g) ∧ ss.map bytesL ++ partsL 47 (l.drop g) = partsL 47 l ∧ Kp (fun i => w.heap.size ≤ i) w w', fun i _ _ _ _ _ => (s.size - i).toNat,
    ⟨0, 0, [], rfl, rfl, by omega, by omega, rfl, by simp, OwnRow.nil _ _ _ _, by simp, by simp, Kp.refl _ _⟩, ?_⟩
  rintro i f q n c w1 ⟨j, g, ss, rfl, rfl, hgj, hj, rfl, hn, hr, hno, hp, k1⟩
  have push : ∀ (b : Nat), g ≤ b → b ≤ s.size → ∀ {K : Value → World → Prop},
      (∀ q' c' w2, OwnRow w2 (fun i => w.heap.size ≤ i) 9 1 (.slice q' (ss.length + 1) c') (ss.length + 1) ((ss ++ [s.extract g b]).map Value.string) → Kp (fun i => w.heap.size ≤ i) w w2 → Keeps (w1.alloc (.cells #[.string (s.extract g b)] 9)) w2 [] → K (.slice q' (ss.length + 1) c') w2) →
      Runs Tryd.prog (Builtin.append_ #[46, 46] 46 #[.slice q ss.length c, .slice (some ⟨w1.heap.size, 0, none⟩) 1 1]) (w1.alloc (.cells #[.string (s.extract g b)] 9)) K := by
    intro b hgb hb K hK
    refine append_new (own := fun i => w.heap.size ≤ i) (xs := ss.map Value.string) #[.string (s.extract g b)] und46 elem9 (by omega) hr rfl (by simp [Value.oneCell']) (by omega) fun q' c' w2 r2 k2 k3 => ?_
    have z1 := k1.size
    refine hK q' c' w2 ?_ (k1.trans k2) (k3.keeps0)
    rw [List.map_append]
    exact r2.mono fun i hi _ => hi.elim id fun hf => Nat.le_trans z1 hf
  refine bif_dec (fun hlt => ⟨⟨by omega, hlt⟩, ?_⟩) (fun hge => ?_)
  · have hjs : j < s.size := by omega
    have hjl : j < l.length := by omega
    have e1 : byteAt s (j : Int) = ((l[j]'hjl).toNat : Int) := by subst hl; exact byteAt_get hjs
    rw [e1]
    refine bif_eq (fun h47 => ?_) (fun h47 => ?_)
    · have hc : l[j]'hjl = 47 := by
        apply UInt8.toNat_inj.1
        show (l[j]'hjl).toNat = 47
        omega
      simp only [Int.toNat_natCast]
      refine ⟨by omega, by omega, push j hgj hj fun q' c' w2 r2 k2 kp => ⟨_, _, _, rfl, kp, wr64 (by omega) (wr64 (by omega) ⟨⟨j + 1, j + 1, ss ++ [s.extract g j], by omega, by omega, by omega, by omega, by simp, by simp; omega, by simpa using r2, by simp, ?_, k2⟩, by first | omega | (dsimp only; omega)⟩)⟩⟩
      rw [List.map_append, ← hp, List.append_assoc]
      congr 1
      have hspl : l.drop g = (l.drop g).take (j - g) ++ 47 :: l.drop (j + 1) := by
        have h1 := List.take_append_drop (j - g) (l.drop g)
        rw [List.drop_drop, show g + (j - g) = j by omega, List.drop_eq_getElem_cons hjl, hc] at h1
        exact h1.symm
      rw [hspl, partsL_hit hno, List.map_singleton, bytesL_extract, hl]
      rfl
    · refine wr64 (by omega) ⟨⟨j + 1, g, ss, by omega, rfl, by omega, by omega, rfl, by omega, hr, ?_, hp, k1⟩, by first | omega | (dsimp only; omega)⟩
      rw [show j + 1 - g = (j - g) + 1 by omega, drop_get (by omega)]
      simp only [List.mem_append, List.mem_singleton, not_or]
      refine ⟨hno, fun h => h47 ?_⟩
      have e : l[g + (j - g)]'(by omega) = l[j]'hjl := by congr 1; omega
      rw [← e, ← h]
      rfl
  · have hjs : j = s.size := by omega
    subst hjs
    simp only [Int.toNat_natCast]
    refine ⟨by omega, push s.size hgj (Nat.le_refl _) fun q' c' w2 r2 k2 kp => ⟨_, _, _, rfl, kp, _, rfl, q', c', ss ++ [s.extract g s.size], by simp, strs_row (by simpa using r2), ?_, by simp; omega, k2.narrow (Nat.le_refl _)⟩⟩
    rw [List.map_append, ← hp]
    congr 1
    have : (l.drop g).take (s.size - g) = l.drop g := List.take_of_length_le (by rw [List.length_drop]; omega)
    rw [this] at hno
    rw [partsL_none hno, List.map_singleton, bytesL_extract, hl, this]
theorem c29 (s : ByteArray) (w : World) : Rets Tryd.prog 29 #[.string s] w fun v w' => v = .bool (okName (bytesL s)) ∧ Kp none_ w w' := by
  refine ent [_] Tryd.func29 ((vcTryd29 _ w _).mpr ?_)
  unfold VCTryd29
  rw [okName_eq]
  have hsz := bytesL_size s
  refine bif_dec (fun h => ⟨_, rfl, ?_, Kp.refl _ _⟩) (fun h => bif_dec (fun h2 => ⟨_, rfl, ?_, Kp.refl _ _⟩) (fun h2 => ?_))
  · rw [decide_eq_false (by omega)]; rfl
  · rw [decide_eq_false (by omega)]; rfl
  rw [decide_eq_true (by omega), Bool.true_and]
  refine ⟨fun i w' => ∃ j : Nat, i = j ∧ j ≤ s.size ∧ ((bytesL s).take j).all okByte = true ∧ w' = w, fun i _ => (s.size - i).toNat, ⟨0, rfl, by omega, by simp, rfl⟩, ?_⟩
  rintro i w1 ⟨j, rfl, hj, hall, rfl⟩
  refine bif_dec (fun hlt => ⟨⟨by omega, hlt⟩, ?_⟩) (fun hge => ?_)
  · have hjs : j < s.size := by omega
    have hjl : j < (bytesL s).length := by omega
    have e1 : byteAt s (j : Int) = (((bytesL s)[j]'hjl).toNat : Int) := byteAt_get hjs
    rw [e1]
    have bad : okByte ((bytesL s)[j]'hjl) = false → ∃ v, Ending.returned (Value.bool false) = Ending.returned v ∧ v = .bool ((bytesL s).all okByte && (partsL 47 (bytesL s)).all fun p => !(p == []) && !(p == [46]) && !(p == [46, 46])) ∧ Kp none_ w1 w1 := fun h => ⟨_, rfl, by rw [all_drop hjl hall h]; rfl, Kp.refl _ _⟩
    refine bif_dec (fun h => bad ?_) (fun h => ⟨⟨by omega, hlt⟩, bif_dec (fun h' => bad ?_) (fun h' => wr64 (by omega) ⟨⟨j + 1, by omega, by omega, ?_, by first | rfl | trivial⟩, by first | omega | (dsimp only; omega)⟩)⟩)
    · unfold okByte; exact decide_eq_false (by omega)
    · unfold okByte; exact decide_eq_false (by omega)
    · rw [List.take_succ_eq_append_getElem hjl, List.all_append, hall]
      have : okByte (bytesL s)[j] = true := by unfold okByte; exact decide_eq_true (by omega)
      simpa using this
  · have : j = s.size := by omega
    rw [this, ← hsz, List.take_length] at hall
    rw [hall, Bool.true_and]
    refine (c107 s (by omega) w1).mono ?_
    rintro v w2 ⟨q, c, ss, rfl, hS, hp, hn, k2⟩
    refine ⟨_, _, _, rfl, k2.keeps0, ?_⟩
    rw [← hp, List.all_map]
    refine ⟨fun i w' => ∃ j : Nat, i = j ∧ j ≤ ss.length ∧ ((ss.take j).all ((fun p => !(p == []) && !(p == [46]) && !(p == [46, 46])) ∘ bytesL)) = true ∧ w' = w2, fun i _ => (ss.length - i).toNat, ⟨0, rfl, by omega, by simp, rfl⟩, ?_⟩
    rintro i w3 ⟨j, rfl, hj, hall, rfl⟩
    refine bif_dec (fun hlt => ⟨⟨by omega, hlt⟩, strs_get hS (i := j) (by omega) fun a ha => ?_⟩) (fun hge => ⟨_, rfl, ?_, k2⟩)
    · have hj' : j < ss.length := by omega
      simp only [beq_str]
      have e0 : bytesL ({ data := #[] } : ByteArray) = [] := rfl
      have e1 : bytesL ({ data := #[46] } : ByteArray) = [46] := rfl
      have e2 : bytesL ({ data := #[46, 46] } : ByteArray) = [46, 46] := rfl
      rw [e0, e1, e2]
      have bad : (!(bytesL ss[j] == []) && !(bytesL ss[j] == [46]) && !(bytesL ss[j] == [46, 46])) = false → ∃ v, Ending.returned (Value.bool false) = Ending.returned v ∧ v = .bool (ss.all ((fun p => !(p == []) && !(p == [46]) && !(p == [46, 46])) ∘ bytesL)) ∧ Kp none_ w1 w3 := fun h => by
        refine ⟨_, rfl, ?_, k2⟩
        have : (ss.all ((fun p => !(p == []) && !(p == [46]) && !(p == [46, 46])) ∘ bytesL)) = false := by
          rw [← Bool.not_eq_true, List.all_eq_true]
          intro hh
          have := hh ss[j] (List.getElem_mem hj')
          simp only [Function.comp] at this
          rw [this] at h; cases h
        rw [this]
      refine bif_b (fun h0 => bad (by rw [h0]; rfl)) (fun h0 => ⟨⟨by omega, hlt⟩, strs_get hS (i := j) hj' fun a ha => bif_b (fun h1 => bad (by rw [h0, h1]; rfl)) (fun h1 => ⟨⟨by omega, hlt⟩, strs_get hS (i := j) hj' fun a ha => bif_b (fun h2 => bad (by rw [h0, h1, h2]; rfl)) (fun h2 => wr64 (by omega) ⟨⟨j + 1, by omega, by omega, ?_, by first | rfl | trivial⟩, by first | omega | (dsimp only; omega)⟩)⟩)⟩)
      rw [List.take_succ_eq_append_getElem hj', List.all_append, hall]
      simp only [List.all_cons, List.all_nil, Function.comp, h0, h1, h2]
      rfl
    · have : j = ss.length := by omega
      rw [this, List.take_length] at hall
      rw [hall]
theorem beq_ba (l : List UInt8) (t : ByteArray) : ((ba l).toList == t.toList) = (l == bytesL t) := by rw [ByteArray.toList_eq, ByteArray.toList_eq, ba_list]
theorem _root_.Go.SX.Kp.ks {w w' : World} {E : Nat} (h : Kp (fun i => E ≤ i) w w') {g : Nat} (hg : g < E) (hl : g < w.heap.size) : Keeps w w' [g] := h.keeps fun b hb => by
  rw [List.mem_singleton] at hb
  subst hb
  exact ⟨hl, by show ¬ E ≤ b; omega⟩
theorem _root_.Go.SX.Kp.k0 {w w' : World} (h : Kp none_ w w') {g : Nat} (hl : g < w.heap.size) : Keeps w w' [g] := h.keeps fun b hb => by
  rw [List.mem_singleton] at hb
  subst hb
  exact ⟨hl, id⟩
end Go.Proofs.YtbpknjldphckgaaDoor

namespace Go.Proofs.YtbpknjldphckgaaDoor
open Go Go.SX Go.Proofs Go.ChangeShapes Go.WideShapes Go.ChangeAt Go.RowKit
set_option maxRecDepth 100000
set_option linter.unusedVariables false
set_option linter.unusedSimpArgs false

theorem Tryd.own : ownKnob Tryd.prog.godebug = none := by kernel_rfl
theorem Tryd.laidOut : laidOutB Tryd.prog = true := by kernel_rfl
/-- What every row of this seat lists. -/
def laids : List (String × DataW Unit) := [("unicode/utf8.acceptRanges", Rows.laid_unicode_utf8_acceptRanges), ("unicode/utf8.first", Rows.laid_unicode_utf8_first)]
theorem shaped0 (os : Os) (args : Array Value) : ((World.laidAll Tryd.prog os laids).forCall (fun _ _ => 0) ⟨#[], args, []⟩).Shaped Tryd.prog := World.shaped_of_ZipB (by kernel_rfl) (by kernel_rfl)
theorem met0 (os : Os) (args : Array Value) : laidMetH Tryd.prog laids ((World.laidAll Tryd.prog os laids).forCall (fun _ _ => 0) ⟨#[], args, []⟩).memory := by
  rw [MakeChecks.laidMetH_plain _ _ _ (by kernel_rfl)]
  exact laidMet_laidAll _ (by kernel_rfl) (by kernel_rfl)
theorem ml_shaped {W : World} (h : W.ShapedOpen Tryd.prog) : ML W := cell_of_shapedOpen_int (t := 3) (zero := #[.int .i64 0]) h (of_decide_eq_true (by kernel_rfl)) (by kernel_rfl) rfl (by kernel_rfl) (by kernel_rfl) Tryd.underlying3
/-- The plain wrap, with what is laid and the world's shape. -/
theorem wrapLS {H : Type} {enc : TypeId × Value → H} {a : Assume} {C : Checked} {os : Os} {f : FuncId} {fn : Func} {s : ChangeSpec} {conds : List PathCond} {apart fresh handsOn again : Bool} {X : World → Array Value → Prop}
    (own : ownKnob C.prog.godebug = none) (started : os.Started) (noInit : C.prog.inits.idxOf? f = none) (hfn : C.prog.funcs[f]? = some fn)
    (witness : ∃ (w : World) (tape : Tape) (i : Input), w.os = os ∧ (w.forCall tape i).Shaped C.prog ∧ i.vars = [] ∧ Input.okWide C.prog (w.forCall tape i) .any w.heap.size f i ∧
      ((s.pre enc C.prog fn conds apart (w.forCall tape i).memory i.args ∧ X (w.forCall tape i).memory i.args) ∧ sizedMet enc C.prog fn (OpenSpec.ofChange s) apart (w.forCall tape i).memory i.args) ∧ a.holds C.prog (lone (Frame.enter C.prog f i.args .normal) [] (w.forCall tape i)))
    (contract : ∀ (W : World) (base : Nat) (args : Array Value) (ds gs : List (DataW H)) (before : List MemPlace),
      (∀ (j : Nat) t v, fn.params[j]? = some t → args[j]? = some v → Value.okWide C.prog W .any base t v) →
      DataW.Whole enc C.prog fn.params.toList s.vars apart W args.toList ds gs before → W.ShapedOpen C.prog →
      Calls C.prog f args W fun e W' => ∃ v, e = .returned v ∧ s.post enc C.prog fn apart fresh handsOn again W args v W') :
    ReturnsInHanded a C os f .any (fun w args => (s.pre enc C.prog fn conds apart w args ∧ X w args) ∧ sizedMet enc C.prog fn (OpenSpec.ofChange s) apart w args) (s.post enc C.prog fn apart fresh handsOn again) := by
  refine returnsInHanded_of_calls own started noInit witness ?_
  intro w tape i _ hsh _ hok hpre hholds
  obtain ⟨_, _, _, fn', hfn', _, _, _, _, hval⟩ := hok
  have e : fn' = fn := Option.some.inj (hfn'.symm.trans hfn)
  subst e
  obtain ⟨⟨⟨ds, gs, before, hw, hc⟩, hx⟩, hz⟩ := hpre
  have hw' := DataW.Whole.of_heap (w' := w.forCall tape i) (by rfl) hw
  refine (contract (w.forCall tape i) w.heap.size i.args ds gs before hval hw' hsh).mono fun e W' ⟨v, he, hp⟩ => ?_
  subst he
  exact ChangeSpec.post_blind hp
end Go.Proofs.YtbpknjldphckgaaDoor

namespace Go.Proofs.YtbpknjldphckgaaDoor
open Go
set_option maxRecDepth 100000
theorem Tryd.enters : Tryd.prog.mayEnter = true := by kernel_rfl
theorem Tryd.lifts : Tryd.prog.liftsFinal = Rows.stonePutsRow.lifted := by kernel_rfl
theorem Tryd.makes : Tryd.prog.make = some Rows.stonePutsRow.make := by kernel_rfl
theorem Tryd.main : Tryd.pinned.checked.prog.mainIs = some (true, "bc9f3cb85745f96992040cc5b31babd500f1ea4e36d299bae426ae28286c4765".toList) := by kernel_rfl
end Go.Proofs.YtbpknjldphckgaaDoor

namespace Go.Proofs.YtbpknjldphckgaaDoor
open Go
set_option maxRecDepth 100000
theorem Tryd.looksNot : false = Tryd.pinned.checked.prog.looks [] := by kernel_rfl
/-- A row's facts: what its function reaches. -/
noncomputable def reachFacts (f : FuncId) (c : OpenClaim) : Bool :=
  (c.inPlace == Tryd.prog.inPlace f) && (c.unfollowed == Tryd.prog.unfollowed f) && (c.recurses == Tryd.prog.recurses f) && (c.named == Tryd.prog.varsNamed f)
/-- A row's facts: the others, but for those that are the same in all rows. -/
noncomputable def plainFacts (fn : Func) (s : ChangeSpec) (c : OpenClaim) : Bool :=
  c.wf (OpenSpec.ofChange s) && laidOutB Tryd.prog && mapsRowed Tryd.prog &&
  fn.params.all (Tryd.prog.readableRec ·) && namedTie Tryd.prog c.named s.vars &&
  (c.stops == []) && (Tryd.prog.stops == []) && (c.knobs == []) && (Tryd.prog.stopKnobs == []) &&
  (c.maps == (fn.params.toList ++ s.plain.varTypes Tryd.prog).any (Tryd.prog.mapsRec ·)) && (c.ifaces == (fn.params.toList ++ s.plain.varTypes Tryd.prog).any (Tryd.prog.ifacesRec ·)) && (c.mapsOut == Tryd.prog.mapsAmong fn.resultTypes.toList) &&
  (c.loops == (fn.params.toList ++ s.plain.varTypes Tryd.prog).any (Tryd.prog.loopsFrom ·)) && (c.wideKeys == (fn.params.toList ++ s.plain.varTypes Tryd.prog ++ fn.resultTypes.toList).any (Tryd.prog.wideKeysFrom ·)) &&
  s.vars.all (Tryd.prog.varReadable ·) && fn.resultTypes.all (fun t => Tryd.prog.readableRec t && decide (t < Tryd.prog.types.size)) && (c.ifacesOut == fn.resultTypes.toList.any (Tryd.prog.ifacesRec ·)) && (c.loopsOut == fn.resultTypes.toList.any (Tryd.prog.loopsFrom ·)) && (c.plainKeys == Tryd.prog.plainKeys) && c.shortTexts.isNone && Tryd.prog.stopsHeard && (c.kinds == (if c.domain.isEmpty then [] else fn.params.toList.map fun t => match Tryd.prog.underlying t with | some (.int k) => some k | _ => none)) && (c.pinned == c.pinnedBy) &&
  (c.veiled == (fn.params.toList ++ s.plain.varTypes Tryd.prog ++ fn.resultTypes.toList).any (Tryd.prog.veiledRec ·)) && c.veiledFits Tryd.prog fn.params.toList (fn.params.toList ++ s.plain.varTypes Tryd.prog ++ fn.resultTypes.toList)
theorem facts_of {f : FuncId} {fn : Func} {s : ChangeSpec} {c : OpenClaim} (hl : c.lifted = Rows.stonePutsRow.lifted) (hm : c.make = Make.cut) (h1 : reachFacts f c = true) (h2 : plainFacts fn s c = true) : joinedFacts Tryd.checked.prog f fn s c = true := by
  show joinedFacts Tryd.prog f fn s c = true
  have e1 := Tryd.enters
  have e2 : (c.lifted == Tryd.prog.liftsFinal) = true := by rw [hl, Tryd.lifts]; exact beq_self_eq_true _
  have e3 : (Tryd.prog.make == some c.make) = true := by
    rw [Tryd.makes, hm]
    show (some Make.cut == some Make.cut) = true
    decide
  simp only [reachFacts, plainFacts, Bool.and_eq_true] at h1 h2
  generalize Tryd.prog = P at *
  unfold joinedFacts
  simp only [Bool.and_eq_true]
  obtain ⟨⟨⟨k10, k11⟩, k12⟩, k13⟩ := h1
  obtain ⟨⟨⟨⟨⟨⟨⟨⟨⟨⟨⟨⟨⟨⟨⟨⟨⟨⟨⟨⟨⟨⟨⟨⟨k1, k2⟩, k3⟩, k4⟩, k5⟩, k6⟩, k7⟩, k8⟩, k9⟩, k14⟩, k15⟩, k16⟩, k17⟩, k18⟩, k19⟩, k20⟩, k21⟩, k22⟩, k23⟩, k24⟩, k25⟩, k29⟩, k30⟩, k31⟩, k32⟩ := h2
  exact ⟨⟨⟨⟨⟨⟨⟨⟨⟨⟨⟨⟨⟨⟨⟨⟨⟨⟨⟨⟨⟨⟨⟨⟨⟨⟨⟨⟨⟨⟨⟨k1, k2⟩, k3⟩, k4⟩, k5⟩, k6⟩, k7⟩, k8⟩, k9⟩, k10⟩, k11⟩, k12⟩, k13⟩, k14⟩, k15⟩, k16⟩, k17⟩, k18⟩, k19⟩, k20⟩, k21⟩, k22⟩, k23⟩, k24⟩, k25⟩, e1⟩, e2⟩, e3⟩, k29⟩, k30⟩, k31⟩, k32⟩
end Go.Proofs.YtbpknjldphckgaaDoor

namespace Go.Proofs.YtbpknjldphckgaaDoor
open Go Go.SX Go.Proofs
set_option maxRecDepth 100000
set_option linter.unusedVariables false
def VCTryd82 (p0 : Option Addr) (n0 c0 : Nat) (w : World) (R : Ending → World → Prop) : Prop :=
∃ (I0 : Int → World → Prop),
 ∃ (I1 : Int → World → Nat),
  I0 (0 : Int) w ∧
   ∀ (i2 : Int) (w3 : World),
    I0 i2 w3 →
     bif decide (i2 < (↑n0 : Int)) then
      bif decide (i2 < (300 : Int)) then
       ((0 : Int) ≤ i2 ∧ i2 < (↑n0 : Int)) ∧
        SX.Ptr p0 fun (a4 : Addr) =>
         ∃ (s5 : ByteArray),
          w3.cell? ((a4.add (i2.toNat * (2 : Nat))).add (0 : Nat)) = some (Value.string s5) ∧
           bif decide ((↑s5.size : Int) > (300 : Int)) then R (Ending.returned (Value.bool true)) w3
           else
            ((0 : Int) ≤ i2 ∧ i2 < (↑n0 : Int)) ∧
             SX.Ptr p0 fun (a6 : Addr) =>
              ∃ (q7 : Option Addr),
               ∃ (n8 : Nat),
                ∃ (n9 : Nat),
                 w3.cell? ((a6.add (i2.toNat * (2 : Nat))).add (1 : Nat)) = some (Value.slice q7 n8 n9) ∧
                  bif decide ((↑n8 : Int) > (70000 : Int)) then R (Ending.returned (Value.bool true)) w3 else Wr IntKind.i64 (i2 + (1 : Int)) fun (i10 : Int) => I0 i10 w3 ∧ I1 i10 w3 < I1 i2 w3
      else R (Ending.returned (Value.bool (decide ((↑n0 : Int) > (250 : Int))))) w3
     else R (Ending.returned (Value.bool (decide ((↑n0 : Int) > (250 : Int))))) w3
theorem vcTryd82 (p0 : Option Addr) (n0 c0 : Nat) (w : World) (R : Ending → World → Prop) : SX.vcFn Tryd.prog [(2, ⟨[(3, .int .i64)], [0], []⟩)] Tryd.f82 [.v (.slice p0 n0 c0)] [] w R = VCTryd82 p0 n0 c0 w R := by kernel_rfl
def VCTryd84 (p0 : Option Addr) (n0 c0 : Nat) (p1 : Option Addr) (n1 c1 : Nat) (w : World) (R : Ending → World → Prop) : Prop :=
Rets Tryd.prog (135 : Nat) #[Value.slice p0 n0 c0, Value.slice p1 n1 c1, Value.func (Fn.func (136 : Nat)) #[] #[]] w fun (v0 : Value) (w1 : World) =>
 ∃ (t2 : Bool), v0 = Value.bool t2 ∧ Keeps w w1 [] ∧ R (Ending.returned (Value.bool t2)) w1
theorem vcTryd84 (p0 : Option Addr) (n0 c0 : Nat) (p1 : Option Addr) (n1 c1 : Nat) (w : World) (R : Ending → World → Prop) : SX.vcFn Tryd.prog [] Tryd.f84 [.v (.slice p0 n0 c0), .v (.slice p1 n1 c1)] [] w R = VCTryd84 p0 n0 c0 p1 n1 c1 w R := by kernel_rfl
def VCTryd85 (p0 : Option Addr) (n0 c0 : Nat) (p1 : Option Addr) (n1 c1 : Nat) (w : World) (R : Ending → World → Prop) : Prop :=
bif (↑n0 : Int) != (↑n1 : Int) then R (Ending.returned (Value.bool false)) w
else
 ∃ (I0 : Int → World → Prop),
  ∃ (I1 : Int → World → Nat),
   I0 (0 : Int) w ∧
    ∀ (i2 : Int) (w3 : World),
     I0 i2 w3 →
      bif decide (i2 < (↑n0 : Int)) then
       ((0 : Int) ≤ i2 ∧ i2 < (↑n0 : Int)) ∧
        SX.Ptr p0 fun (a4 : Addr) =>
         ∃ (s5 : ByteArray),
          w3.drew.cell? ((a4.add (i2.toNat * (2 : Nat))).add (0 : Nat)) = some (Value.string s5) ∧
           ((0 : Int) ≤ i2 ∧ i2 < (↑n1 : Int)) ∧
            SX.Ptr p1 fun (a6 : Addr) =>
             ∃ (s7 : ByteArray),
              w3.drew.cell? ((a6.add (i2.toNat * (2 : Nat))).add (0 : Nat)) = some (Value.string s7) ∧
               bif !s5.toList == s7.toList then R (Ending.returned (Value.bool false)) w3.drew
               else
                ((0 : Int) ≤ i2 ∧ i2 < (↑n0 : Int)) ∧
                 SX.Ptr p0 fun (a8 : Addr) =>
                  ∃ (q9 : Option Addr),
                   ∃ (n10 : Nat),
                    ∃ (n11 : Nat),
                     w3.drew.cell? ((a8.add (i2.toNat * (2 : Nat))).add (1 : Nat)) = some (Value.slice q9 n10 n11) ∧
                      ∃ (s12 : ByteArray),
                       s12.size = n10 ∧
                        BytesAt w3.drew q9 s12 ∧
                         ((0 : Int) ≤ i2 ∧ i2 < (↑n1 : Int)) ∧
                          SX.Ptr p1 fun (a13 : Addr) =>
                           ∃ (q14 : Option Addr),
                            ∃ (n15 : Nat),
                             ∃ (n16 : Nat),
                              w3.drew.cell? ((a13.add (i2.toNat * (2 : Nat))).add (1 : Nat)) = some (Value.slice q14 n15 n16) ∧
                               ∃ (s17 : ByteArray),
                                s17.size = n15 ∧
                                 BytesAt w3.drew q14 s17 ∧
                                  bif !s12.toList == s17.toList then R (Ending.returned (Value.bool false)) w3.drew
                                  else Wr IntKind.i64 (i2 + (1 : Int)) fun (i18 : Int) => I0 i18 w3.drew ∧ I1 i18 w3.drew < I1 i2 w3
      else R (Ending.returned (Value.bool true)) w3
theorem vcTryd85 (p0 : Option Addr) (n0 c0 : Nat) (p1 : Option Addr) (n1 c1 : Nat) (w : World) (R : Ending → World → Prop) : SX.vcFn Tryd.prog [(4, ⟨[(5, .int .i64)], [1, 0], []⟩)] Tryd.f85 [.v (.slice p0 n0 c0), .v (.slice p1 n1 c1)] [] w R = VCTryd85 p0 n0 c0 p1 n1 c1 w R := by kernel_rfl
def VCTryd87 (p0 : Option Addr) (n0 c0 : Nat) (p1 : ByteArray) (w : World) (R : Ending → World → Prop) : Prop :=
∃ (I0 : Int → World → Prop),
 ∃ (I1 : Int → World → Nat),
  I0 (0 : Int) w ∧
   ∀ (i2 : Int) (w3 : World),
    I0 i2 w3 →
     bif decide (i2 < (↑n0 : Int)) then
      ((0 : Int) ≤ i2 ∧ i2 < (↑n0 : Int)) ∧
       SX.Ptr p0 fun (a4 : Addr) =>
        ∃ (s5 : ByteArray),
         w3.cell? ((a4.add (i2.toNat * (2 : Nat))).add (0 : Nat)) = some (Value.string s5) ∧
          bif s5.toList == p1.toList then R (Ending.returned (Value.int IntKind.i64 i2)) w3 else Wr IntKind.i64 (i2 + (1 : Int)) fun (i6 : Int) => I0 i6 w3 ∧ I1 i6 w3 < I1 i2 w3
     else R (Ending.returned (Value.int IntKind.i64 (-1 : Int))) w3
theorem vcTryd87 (p0 : Option Addr) (n0 c0 : Nat) (p1 : ByteArray) (w : World) (R : Ending → World → Prop) : SX.vcFn Tryd.prog [(2, ⟨[(5, .int .i64)], [1, 0], []⟩)] Tryd.f87 [.v (.slice p0 n0 c0), .v (.string p1)] [] w R = VCTryd87 p0 n0 c0 p1 w R := by kernel_rfl
def VCTryd88 (p0 : Option Addr) (n0 c0 : Nat) (p1 : ByteArray) (w : World) (R : Ending → World → Prop) : Prop :=
Rets Tryd.prog (137 : Nat) #[Value.slice p0 n0 c0, Value.string p1] w fun (v0 : Value) (w1 : World) =>
 ∃ (i2 : Int),
  ∃ (t3 : Bool),
   v0 = Value.tuple #[Value.int IntKind.i64 i2, Value.bool t3] ∧
    Keeps w w1 [] ∧
     bif !t3 then R (Ending.returned (Value.tuple #[Value.slice none (0 : Nat) (0 : Nat), Value.bool false])) w1
     else
      ((0 : Int) ≤ i2 ∧ i2 < (↑n0 : Int)) ∧
       SX.Ptr p0 fun (a4 : Addr) =>
        ∃ (q5 : Option Addr),
         ∃ (n6 : Nat),
          ∃ (n7 : Nat),
           w1.cell? ((a4.add (i2.toNat * (2 : Nat))).add (1 : Nat)) = some (Value.slice q5 n6 n7) ∧
            Rets Tryd.prog (138 : Nat) #[Value.slice q5 n6 n7] w1 fun (v8 : Value) (w9 : World) =>
             ∃ (q10 : Option Addr), ∃ (n11 : Nat), ∃ (n12 : Nat), v8 = Value.slice q10 n11 n12 ∧ Keeps w1 w9 [] ∧ R (Ending.returned (Value.tuple #[Value.slice q10 n11 n12, Value.bool true])) w9
theorem vcTryd88 (p0 : Option Addr) (n0 c0 : Nat) (p1 : ByteArray) (w : World) (R : Ending → World → Prop) : SX.vcFn Tryd.prog [] Tryd.f88 [.v (.slice p0 n0 c0), .v (.string p1)] [] w R = VCTryd88 p0 n0 c0 p1 w R := by kernel_rfl
def VCTryd89 (p0 : Option Addr) (n0 c0 : Nat) (p1 : ByteArray) (p2 : Option Addr) (n2 c2 : Nat) (w : World) (R : Ending → World → Prop) : Prop :=
Rets Tryd.prog (139 : Nat) #[Value.slice p0 n0 c0] w fun (v0 : Value) (w1 : World) =>
 ∃ (q2 : Option Addr),
  ∃ (n3 : Nat),
   ∃ (n4 : Nat),
    v0 = Value.slice q2 n3 n4 ∧
     Keeps w w1 [] ∧
      Rets Tryd.prog (138 : Nat) #[Value.slice p2 n2 c2] w1 fun (v5 : Value) (w6 : World) =>
       ∃ (q7 : Option Addr),
        ∃ (n8 : Nat),
         ∃ (n9 : Nat),
          v5 = Value.slice q7 n8 n9 ∧
           Keeps w1 w6 [] ∧
            (Known
              (((w6.alloc (Obj.cells #[Value.string { data := #[] }, Value.slice none (0 : Nat) (0 : Nat)] (107 : Nat))).setCell { block := w6.heap.size, off := (0 : Nat) } (Value.string p1)).setCell
               {block := w6.heap.size, off := (1 : Nat) } (Value.slice q7 n8 n9))
              [(w6.heap.size, [((0 : Nat), Value.string p1), ((1 : Nat), Value.slice q7 n8 n9)])] →
             Rets Tryd.prog (137 : Nat) #[Value.slice q2 n3 n4, Value.string p1]
              (((w6.alloc (Obj.cells #[Value.string { data := #[] }, Value.slice none (0 : Nat) (0 : Nat)] (107 : Nat))).setCell { block := w6.heap.size, off := (0 : Nat) } (Value.string p1)).setCell
               {block := w6.heap.size, off := (1 : Nat) } (Value.slice q7 n8 n9))
              fun (v10 : Value) (w11 : World) =>
              ∃ (i12 : Int),
               ∃ (t13 : Bool),
                v10 = Value.tuple #[Value.int IntKind.i64 i12, Value.bool t13] ∧
                 Keeps
                   (((w6.alloc (Obj.cells #[Value.string { data := #[] }, Value.slice none (0 : Nat) (0 : Nat)] (107 : Nat))).setCell { block := w6.heap.size, off := (0 : Nat) }
                      (Value.string p1)).setCell
                    {block := w6.heap.size, off := (1 : Nat) } (Value.slice q7 n8 n9))
                   w11 [w6.heap.size] ∧
                  bif t13 then
                   ((0 : Int) ≤ i12 ∧ i12 < (↑n3 : Int)) ∧
                    SX.Ptr q2 fun (a14 : Addr) =>
                     (∃ (v15 : Value), w11.cell? ((a14.add (i12.toNat * (2 : Nat))).add (0 : Nat)) = some v15) ∧
                      w11.frozen? ((a14.add (i12.toNat * (2 : Nat))).add (0 : Nat)) = false ∧
                       Apart ((a14.add (i12.toNat * (2 : Nat))).add (0 : Nat)) w6.heap.size [(0 : Nat), (1 : Nat)] ∧
                        (∃ (v16 : Value), (w11.setCell ((a14.add (i12.toNat * (2 : Nat))).add (0 : Nat)) (Value.string p1)).cell? ((a14.add (i12.toNat * (2 : Nat))).add (1 : Nat)) = some v16) ∧
                         (w11.setCell ((a14.add (i12.toNat * (2 : Nat))).add (0 : Nat)) (Value.string p1)).frozen? ((a14.add (i12.toNat * (2 : Nat))).add (1 : Nat)) = false ∧
                          Apart ((a14.add (i12.toNat * (2 : Nat))).add (1 : Nat)) w6.heap.size [(0 : Nat), (1 : Nat)] ∧
                           (Known
                             ((w11.setCell ((a14.add (i12.toNat * (2 : Nat))).add (0 : Nat)) (Value.string p1)).setCell ((a14.add (i12.toNat * (2 : Nat))).add (1 : Nat))
                              (Value.slice q7 n8 n9))
                             [(w6.heap.size, [((0 : Nat), Value.string p1), ((1 : Nat), Value.slice q7 n8 n9)])] →
                            R (Ending.returned (Value.slice q2 n3 n4))
                             ((w11.setCell ((a14.add (i12.toNat * (2 : Nat))).add (0 : Nat)) (Value.string p1)).setCell ((a14.add (i12.toNat * (2 : Nat))).add (1 : Nat))
                              (Value.slice q7 n8 n9)))
                  else
                   Known (w11.alloc (Obj.cells #[Value.string p1, Value.slice q7 n8 n9] (107 : Nat))) [(w6.heap.size, [((0 : Nat), Value.string p1), ((1 : Nat), Value.slice q7 n8 n9)])] →
                    Rets Tryd.prog (140 : Nat) #[Value.slice q2 n3 n4, Value.int IntKind.i64 i12, Value.slice (some { block := w11.heap.size, off := (0 : Nat) }) (1 : Nat) (1 : Nat)]
                     (w11.alloc (Obj.cells #[Value.string p1, Value.slice q7 n8 n9] (107 : Nat))) fun (v17 : Value) (w18 : World) =>
                     ∃ (q19 : Option Addr),
                      ∃ (n20 : Nat),
                       ∃ (n21 : Nat),
                        v17 = Value.slice q19 n20 n21 ∧
                         Keeps (w11.alloc (Obj.cells #[Value.string p1, Value.slice q7 n8 n9] (107 : Nat))) w18 [w6.heap.size] ∧
                          (Known w18 [(w6.heap.size, [((0 : Nat), Value.string p1), ((1 : Nat), Value.slice q7 n8 n9)])] → R (Ending.returned (Value.slice q19 n20 n21)) w18))
theorem vcTryd89 (p0 : Option Addr) (n0 c0 : Nat) (p1 : ByteArray) (p2 : Option Addr) (n2 c2 : Nat) (w : World) (R : Ending → World → Prop) : SX.vcFn Tryd.prog [] Tryd.f89 [.v (.slice p0 n0 c0), .v (.string p1), .v (.slice p2 n2 c2)] [] w R = VCTryd89 p0 n0 c0 p1 p2 n2 c2 w R := by kernel_rfl
def VCTryd90 (p0 : Option Addr) (n0 c0 : Nat) (p1 : ByteArray) (w : World) (R : Ending → World → Prop) : Prop :=
Rets Tryd.prog (139 : Nat) #[Value.slice p0 n0 c0] w fun (v0 : Value) (w1 : World) =>
 ∃ (q2 : Option Addr),
  ∃ (n3 : Nat),
   ∃ (n4 : Nat),
    v0 = Value.slice q2 n3 n4 ∧
     Keeps w w1 [] ∧
      Rets Tryd.prog (137 : Nat) #[Value.slice q2 n3 n4, Value.string p1] w1 fun (v5 : Value) (w6 : World) =>
       ∃ (i7 : Int),
        ∃ (t8 : Bool),
         v5 = Value.tuple #[Value.int IntKind.i64 i7, Value.bool t8] ∧
          Keeps w1 w6 [] ∧
           bif t8 then
            Wr IntKind.i64 (i7 + (1 : Int)) fun (i9 : Int) =>
             Rets Tryd.prog (141 : Nat) #[Value.slice q2 n3 n4, Value.int IntKind.i64 i7, Value.int IntKind.i64 i9] w6 fun (v10 : Value) (w11 : World) =>
              ∃ (q12 : Option Addr), ∃ (n13 : Nat), ∃ (n14 : Nat), v10 = Value.slice q12 n13 n14 ∧ Keeps w6 w11 [] ∧ R (Ending.returned (Value.slice q12 n13 n14)) w11
           else R (Ending.returned (Value.slice q2 n3 n4)) w6
theorem vcTryd90 (p0 : Option Addr) (n0 c0 : Nat) (p1 : ByteArray) (w : World) (R : Ending → World → Prop) : SX.vcFn Tryd.prog [] Tryd.f90 [.v (.slice p0 n0 c0), .v (.string p1)] [] w R = VCTryd90 p0 n0 c0 p1 w R := by kernel_rfl
def VCTryd91 (p0 : Option Addr) (n0 c0 : Nat) (p1 : ByteArray) (p2 : ByteArray) (w : World) (R : Ending → World → Prop) : Prop :=
Runs Tryd.prog (convert (9 : Nat) (27 : Nat) (Value.string p2)) w fun (v0 : Value) (w1 : World) =>
 ∃ (q2 : Option Addr),
  ∃ (n3 : Nat),
   ∃ (n4 : Nat),
    v0 = Value.slice q2 n3 n4 ∧
     Keeps w w1 [] ∧
      ∃ (I5 : Int → Option Addr → Nat → Nat → Bool → World → Prop),
       ∃ (I6 : Int → Option Addr → Nat → Nat → Bool → World → Nat),
        I5 (0 : Int) none (0 : Nat) (0 : Nat) false
          (((w1.alloc (Obj.cells #[Value.string { data := #[] }, Value.slice none (0 : Nat) (0 : Nat)] (107 : Nat))).setCell { block := w1.heap.size, off := (0 : Nat) } (Value.string p1)).setCell
           {block := w1.heap.size, off := (1 : Nat) } (Value.slice q2 n3 n4)) ∧
         ∀ (i7 : Int) (q8 : Option Addr) (n9 n10 : Nat) (t11 : Bool) (w12 : World),
          I5 i7 q8 n9 n10 t11 w12 →
           Known w12 [(w1.heap.size, [((0 : Nat), Value.string p1), ((1 : Nat), Value.slice q2 n3 n4)])] →
            bif decide (i7 < (↑n0 : Int)) then
             bif !t11 then
              ((0 : Int) ≤ i7 ∧ i7 < (↑n0 : Int)) ∧
               SX.Ptr p0 fun (a13 : Addr) =>
                ∃ (s14 : ByteArray),
                 w12.cell? ((a13.add (i7.toNat * (2 : Nat))).add (0 : Nat)) = some (Value.string s14) ∧
                  bif Op.bytesLess p1.toList s14.toList || p1.toList == s14.toList then
                   Runs Tryd.prog (Builtin.append_ #[(105 : Nat), (105 : Nat)] (105 : Nat) #[Value.slice q8 n9 n10, Value.slice (some { block := w12.heap.size, off := (0 : Nat) }) (1 : Nat) (1 : Nat)])
                    (w12.alloc (Obj.cells #[Value.string p1, Value.slice q2 n3 n4] (107 : Nat))) fun (v15 : Value) (w16 : World) =>
                    ∃ (q17 : Option Addr),
                     ∃ (n18 : Nat),
                      ∃ (n19 : Nat),
                       v15 = Value.slice q17 n18 n19 ∧
                        Keeps (w12.alloc (Obj.cells #[Value.string p1, Value.slice q2 n3 n4] (107 : Nat))) w16 [w1.heap.size] ∧
                         ((0 : Int) ≤ i7 ∧ i7 < (↑n0 : Int)) ∧
                          SX.Ptr p0 fun (a20 : Addr) =>
                           ∃ (s21 : ByteArray),
                            w16.cell? ((a20.add (i7.toNat * (2 : Nat))).add (0 : Nat)) = some (Value.string s21) ∧
                             bif !s21.toList == p1.toList then
                              ((0 : Int) ≤ i7 ∧ i7 < (↑n0 : Int)) ∧
                               SX.Ptr p0 fun (a22 : Addr) =>
                                ∃ (s23 : ByteArray),
                                 ∃ (q24 : Option Addr),
                                  ∃ (n25 : Nat),
                                   ∃ (n26 : Nat),
                                    (w16.cell? ((a22.add (i7.toNat * (2 : Nat))).add (0 : Nat)) = some (Value.string s23) ∧
                                      w16.cell? ((a22.add (i7.toNat * (2 : Nat))).add (1 : Nat)) = some (Value.slice q24 n25 n26) ∧ True) ∧
                                     Runs Tryd.prog
                                      (Builtin.append_ #[(105 : Nat), (105 : Nat)] (105 : Nat)
                                       #[Value.slice q17 n18 n19, Value.slice (some { block := w16.heap.size, off := (0 : Nat) }) (1 : Nat) (1 : Nat)])
                                      (w16.alloc (Obj.cells #[Value.string s23, Value.slice q24 n25 n26] (107 : Nat))) fun (v27 : Value) (w28 : World) =>
                                      ∃ (q29 : Option Addr),
                                       ∃ (n30 : Nat),
                                        ∃ (n31 : Nat),
                                         v27 = Value.slice q29 n30 n31 ∧
                                          Keeps (w16.alloc (Obj.cells #[Value.string s23, Value.slice q24 n25 n26] (107 : Nat))) w28 [w1.heap.size] ∧
                                           Wr IntKind.i64 (i7 + (1 : Int)) fun (i32 : Int) =>
                                            SameVals [Value.string p1, Value.slice q2 n3 n4] [Value.string p1, Value.slice q2 n3 n4] ∧
                                             I5 i32 q29 n30 n31 true w28 ∧ I6 i32 q29 n30 n31 true w28 < I6 i7 q8 n9 n10 t11 w12
                             else
                              Wr IntKind.i64 (i7 + (1 : Int)) fun (i33 : Int) =>
                               SameVals [Value.string p1, Value.slice q2 n3 n4] [Value.string p1, Value.slice q2 n3 n4] ∧
                                I5 i33 q17 n18 n19 true w16 ∧ I6 i33 q17 n18 n19 true w16 < I6 i7 q8 n9 n10 t11 w12
                  else
                   ((0 : Int) ≤ i7 ∧ i7 < (↑n0 : Int)) ∧
                    SX.Ptr p0 fun (a34 : Addr) =>
                     ∃ (s35 : ByteArray),
                      w12.cell? ((a34.add (i7.toNat * (2 : Nat))).add (0 : Nat)) = some (Value.string s35) ∧
                       bif !s35.toList == p1.toList then
                        ((0 : Int) ≤ i7 ∧ i7 < (↑n0 : Int)) ∧
                         SX.Ptr p0 fun (a36 : Addr) =>
                          ∃ (s37 : ByteArray),
                           ∃ (q38 : Option Addr),
                            ∃ (n39 : Nat),
                             ∃ (n40 : Nat),
                              (w12.cell? ((a36.add (i7.toNat * (2 : Nat))).add (0 : Nat)) = some (Value.string s37) ∧
                                w12.cell? ((a36.add (i7.toNat * (2 : Nat))).add (1 : Nat)) = some (Value.slice q38 n39 n40) ∧ True) ∧
                               Runs Tryd.prog
                                (Builtin.append_ #[(105 : Nat), (105 : Nat)] (105 : Nat)
                                 #[Value.slice q8 n9 n10, Value.slice (some { block := w12.heap.size, off := (0 : Nat) }) (1 : Nat) (1 : Nat)])
                                (w12.alloc (Obj.cells #[Value.string s37, Value.slice q38 n39 n40] (107 : Nat))) fun (v41 : Value) (w42 : World) =>
                                ∃ (q43 : Option Addr),
                                 ∃ (n44 : Nat),
                                  ∃ (n45 : Nat),
                                   v41 = Value.slice q43 n44 n45 ∧
                                    Keeps (w12.alloc (Obj.cells #[Value.string s37, Value.slice q38 n39 n40] (107 : Nat))) w42 [w1.heap.size] ∧
                                     Wr IntKind.i64 (i7 + (1 : Int)) fun (i46 : Int) =>
                                      SameVals [Value.string p1, Value.slice q2 n3 n4] [Value.string p1, Value.slice q2 n3 n4] ∧
                                       I5 i46 q43 n44 n45 t11 w42 ∧ I6 i46 q43 n44 n45 t11 w42 < I6 i7 q8 n9 n10 t11 w12
                       else
                        Wr IntKind.i64 (i7 + (1 : Int)) fun (i47 : Int) =>
                         SameVals [Value.string p1, Value.slice q2 n3 n4] [Value.string p1, Value.slice q2 n3 n4] ∧ I5 i47 q8 n9 n10 t11 w12 ∧ I6 i47 q8 n9 n10 t11 w12 < I6 i7 q8 n9 n10 t11 w12
             else
              ((0 : Int) ≤ i7 ∧ i7 < (↑n0 : Int)) ∧
               SX.Ptr p0 fun (a48 : Addr) =>
                ∃ (s49 : ByteArray),
                 w12.cell? ((a48.add (i7.toNat * (2 : Nat))).add (0 : Nat)) = some (Value.string s49) ∧
                  bif !s49.toList == p1.toList then
                   ((0 : Int) ≤ i7 ∧ i7 < (↑n0 : Int)) ∧
                    SX.Ptr p0 fun (a50 : Addr) =>
                     ∃ (s51 : ByteArray),
                      ∃ (q52 : Option Addr),
                       ∃ (n53 : Nat),
                        ∃ (n54 : Nat),
                         (w12.cell? ((a50.add (i7.toNat * (2 : Nat))).add (0 : Nat)) = some (Value.string s51) ∧
                           w12.cell? ((a50.add (i7.toNat * (2 : Nat))).add (1 : Nat)) = some (Value.slice q52 n53 n54) ∧ True) ∧
                          Runs Tryd.prog
                           (Builtin.append_ #[(105 : Nat), (105 : Nat)] (105 : Nat)
                            #[Value.slice q8 n9 n10, Value.slice (some { block := w12.heap.size, off := (0 : Nat) }) (1 : Nat) (1 : Nat)])
                           (w12.alloc (Obj.cells #[Value.string s51, Value.slice q52 n53 n54] (107 : Nat))) fun (v55 : Value) (w56 : World) =>
                           ∃ (q57 : Option Addr),
                            ∃ (n58 : Nat),
                             ∃ (n59 : Nat),
                              v55 = Value.slice q57 n58 n59 ∧
                               Keeps (w12.alloc (Obj.cells #[Value.string s51, Value.slice q52 n53 n54] (107 : Nat))) w56 [w1.heap.size] ∧
                                Wr IntKind.i64 (i7 + (1 : Int)) fun (i60 : Int) =>
                                 SameVals [Value.string p1, Value.slice q2 n3 n4] [Value.string p1, Value.slice q2 n3 n4] ∧
                                  I5 i60 q57 n58 n59 t11 w56 ∧ I6 i60 q57 n58 n59 t11 w56 < I6 i7 q8 n9 n10 t11 w12
                  else
                   Wr IntKind.i64 (i7 + (1 : Int)) fun (i61 : Int) =>
                    SameVals [Value.string p1, Value.slice q2 n3 n4] [Value.string p1, Value.slice q2 n3 n4] ∧ I5 i61 q8 n9 n10 t11 w12 ∧ I6 i61 q8 n9 n10 t11 w12 < I6 i7 q8 n9 n10 t11 w12
            else
             bif !t11 then
              Runs Tryd.prog (Builtin.append_ #[(105 : Nat), (105 : Nat)] (105 : Nat) #[Value.slice q8 n9 n10, Value.slice (some { block := w12.heap.size, off := (0 : Nat) }) (1 : Nat) (1 : Nat)])
               (w12.alloc (Obj.cells #[Value.string p1, Value.slice q2 n3 n4] (107 : Nat))) fun (v62 : Value) (w63 : World) =>
               ∃ (q64 : Option Addr),
                ∃ (n65 : Nat),
                 ∃ (n66 : Nat),
                  v62 = Value.slice q64 n65 n66 ∧
                   Keeps (w12.alloc (Obj.cells #[Value.string p1, Value.slice q2 n3 n4] (107 : Nat))) w63 [w1.heap.size] ∧
                    (Known w63 [(w1.heap.size, [((0 : Nat), Value.string p1), ((1 : Nat), Value.slice q2 n3 n4)])] → R (Ending.returned (Value.slice q64 n65 n66)) w63)
             else Known w12 [(w1.heap.size, [((0 : Nat), Value.string p1), ((1 : Nat), Value.slice q2 n3 n4)])] → R (Ending.returned (Value.slice q8 n9 n10)) w12
theorem vcTryd91 (p0 : Option Addr) (n0 c0 : Nat) (p1 : ByteArray) (p2 : ByteArray) (w : World) (R : Ending → World → Prop) : SX.vcFn Tryd.prog [(5, ⟨[(10, .int .i64), (7, .slice), (9, .bool)], [0, 1, 8], []⟩)] Tryd.f91 [.v (.slice p0 n0 c0), .v (.string p1), .v (.string p2)] [] w R = VCTryd91 p0 n0 c0 p1 p2 w R := by kernel_rfl
def VCTryd92 (p0 : Option Addr) (n0 c0 : Nat) (p1 : ByteArray) (w : World) (R : Ending → World → Prop) : Prop :=
∃ (I0 : Int → Option Addr → Nat → Nat → World → Prop),
 ∃ (I1 : Int → Option Addr → Nat → Nat → World → Nat),
  I0 (0 : Int) none (0 : Nat) (0 : Nat) w ∧
   ∀ (i2 : Int) (q3 : Option Addr) (n4 n5 : Nat) (w6 : World),
    I0 i2 q3 n4 n5 w6 →
     bif decide (i2 < (↑n0 : Int)) then
      ((0 : Int) ≤ i2 ∧ i2 < (↑n0 : Int)) ∧
       SX.Ptr p0 fun (a7 : Addr) =>
        ∃ (s8 : ByteArray),
         w6.cell? ((a7.add (i2.toNat * (2 : Nat))).add (0 : Nat)) = some (Value.string s8) ∧
          bif !s8.toList == p1.toList then
           ((0 : Int) ≤ i2 ∧ i2 < (↑n0 : Int)) ∧
            SX.Ptr p0 fun (a9 : Addr) =>
             ∃ (s10 : ByteArray),
              ∃ (q11 : Option Addr),
               ∃ (n12 : Nat),
                ∃ (n13 : Nat),
                 (w6.cell? ((a9.add (i2.toNat * (2 : Nat))).add (0 : Nat)) = some (Value.string s10) ∧ w6.cell? ((a9.add (i2.toNat * (2 : Nat))).add (1 : Nat)) = some (Value.slice q11 n12 n13) ∧ True) ∧
                  Runs Tryd.prog (Builtin.append_ #[(105 : Nat), (105 : Nat)] (105 : Nat) #[Value.slice q3 n4 n5, Value.slice (some { block := w6.heap.size, off := (0 : Nat) }) (1 : Nat) (1 : Nat)])
                   (w6.alloc (Obj.cells #[Value.string s10, Value.slice q11 n12 n13] (107 : Nat))) fun (v14 : Value) (w15 : World) =>
                   ∃ (q16 : Option Addr),
                    ∃ (n17 : Nat),
                     ∃ (n18 : Nat),
                      v14 = Value.slice q16 n17 n18 ∧
                       Keeps (w6.alloc (Obj.cells #[Value.string s10, Value.slice q11 n12 n13] (107 : Nat))) w15 [] ∧
                        Wr IntKind.i64 (i2 + (1 : Int)) fun (i19 : Int) => I0 i19 q16 n17 n18 w15 ∧ I1 i19 q16 n17 n18 w15 < I1 i2 q3 n4 n5 w6
          else Wr IntKind.i64 (i2 + (1 : Int)) fun (i20 : Int) => I0 i20 q3 n4 n5 w6 ∧ I1 i20 q3 n4 n5 w6 < I1 i2 q3 n4 n5 w6
     else R (Ending.returned (Value.slice q3 n4 n5)) w6
theorem vcTryd92 (p0 : Option Addr) (n0 c0 : Nat) (p1 : ByteArray) (w : World) (R : Ending → World → Prop) : SX.vcFn Tryd.prog [(3, ⟨[(6, .int .i64), (5, .slice)], [0, 1], []⟩)] Tryd.f92 [.v (.slice p0 n0 c0), .v (.string p1)] [] w R = VCTryd92 p0 n0 c0 p1 w R := by kernel_rfl
def VCTryd97 (w : World) (R : Ending → World → Prop) : Prop :=
Known
  ((w.alloc (Obj.cells #[Value.bool false, Value.slice none (0 : Nat) (0 : Nat)] (130 : Nat))).alloc
   (Obj.cells
    #[Value.slice (some { block := w.heap.size, off := (0 : Nat) }) (1 : Nat) (1 : Nat), Value.bool false, Value.bool false, Value.bool false, Value.slice none (0 : Nat) (0 : Nat), Value.string { data := #[] },
     Value.slice none (0 : Nat) (0 : Nat)]
    (185 : Nat)))
  [((w.alloc (Obj.cells #[Value.bool false, Value.slice none (0 : Nat) (0 : Nat)] (130 : Nat))).heap.size,
    [((0 : Nat), Value.slice (some { block := w.heap.size, off := (0 : Nat) }) (1 : Nat) (1 : Nat)), ((1 : Nat), Value.bool false), ((2 : Nat), Value.bool false), ((3 : Nat), Value.bool false),
     ((4 : Nat), Value.slice none (0 : Nat) (0 : Nat)), ((5 : Nat), Value.string { data := #[] }), ((6 : Nat), Value.slice none (0 : Nat) (0 : Nat))])] →
 R (Ending.returned (Value.pointer (some { block := (w.alloc (Obj.cells #[Value.bool false, Value.slice none (0 : Nat) (0 : Nat)] (130 : Nat))).heap.size, off := (0 : Nat) })))
  ((w.alloc (Obj.cells #[Value.bool false, Value.slice none (0 : Nat) (0 : Nat)] (130 : Nat))).alloc
   (Obj.cells
    #[Value.slice (some { block := w.heap.size, off := (0 : Nat) }) (1 : Nat) (1 : Nat), Value.bool false, Value.bool false, Value.bool false, Value.slice none (0 : Nat) (0 : Nat), Value.string { data := #[] },
     Value.slice none (0 : Nat) (0 : Nat)]
    (185 : Nat)))
theorem vcTryd97 (w : World) (R : Ending → World → Prop) : SX.vcFn Tryd.prog [] Tryd.f97 [] [] w R = VCTryd97  w R := by kernel_rfl
def VCTryd98 (w : World) (R : Ending → World → Prop) : Prop :=
Known
  (((((((((w.alloc
                   (Obj.cells
                    #[Value.slice none (0 : Nat) (0 : Nat), Value.bool false, Value.bool false, Value.bool false, Value.slice none (0 : Nat) (0 : Nat), Value.string { data := #[] },
                     Value.string { data := #[] }]
                    (136 : Nat))).alloc
                 (Obj.cells #[Value.bool false, Value.slice none (0 : Nat) (0 : Nat)] (146 : Nat))).setCell
               {block := w.heap.size, off := (0 : Nat) }
               (Value.slice
                (some
                 {
                  block :=
                   (w.alloc
                      (Obj.cells
                       #[Value.slice none (0 : Nat) (0 : Nat), Value.bool false, Value.bool false, Value.bool false, Value.slice none (0 : Nat) (0 : Nat), Value.string { data := #[] },
                        Value.string { data := #[] }]
                       (136 : Nat))).heap.size,
                  off := (0 : Nat) })
                (1 : Nat) (1 : Nat))).setCell
             {block := w.heap.size, off := (1 : Nat) } (Value.bool false)).setCell
           {block := w.heap.size, off := (2 : Nat) } (Value.bool false)).setCell
         {block := w.heap.size, off := (3 : Nat) } (Value.bool false)).setCell
       {block := w.heap.size, off := (4 : Nat) } (Value.slice none (0 : Nat) (0 : Nat))).setCell
     {block := w.heap.size, off := (5 : Nat) } (Value.string { data := #[] })).setCell
   {block := w.heap.size, off := (6 : Nat) } (Value.string { data := #[] }))
  [(w.heap.size,
    [((0 : Nat),
      Value.slice
       (some
        {
         block :=
          (w.alloc
             (Obj.cells
              #[Value.slice none (0 : Nat) (0 : Nat), Value.bool false, Value.bool false, Value.bool false, Value.slice none (0 : Nat) (0 : Nat), Value.string { data := #[] }, Value.string { data := #[] }]
              (136 : Nat))).heap.size,
         off := (0 : Nat) })
       (1 : Nat) (1 : Nat)),
     ((1 : Nat), Value.bool false), ((2 : Nat), Value.bool false), ((3 : Nat), Value.bool false), ((4 : Nat), Value.slice none (0 : Nat) (0 : Nat)), ((5 : Nat), Value.string { data := #[] }),
     ((6 : Nat), Value.string { data := #[] })])] →
 R
  (Ending.returned
   (Value.agg
    #[Value.slice
      (some
       {
        block :=
         (w.alloc
            (Obj.cells
             #[Value.slice none (0 : Nat) (0 : Nat), Value.bool false, Value.bool false, Value.bool false, Value.slice none (0 : Nat) (0 : Nat), Value.string { data := #[] }, Value.string { data := #[] }]
             (136 : Nat))).heap.size,
        off := (0 : Nat) })
      (1 : Nat) (1 : Nat),
     Value.bool false, Value.bool false, Value.bool false, Value.slice none (0 : Nat) (0 : Nat), Value.string { data := #[] }, Value.string { data := #[] }]))
  (((((((((w.alloc
                   (Obj.cells
                    #[Value.slice none (0 : Nat) (0 : Nat), Value.bool false, Value.bool false, Value.bool false, Value.slice none (0 : Nat) (0 : Nat), Value.string { data := #[] },
                     Value.string { data := #[] }]
                    (136 : Nat))).alloc
                 (Obj.cells #[Value.bool false, Value.slice none (0 : Nat) (0 : Nat)] (146 : Nat))).setCell
               {block := w.heap.size, off := (0 : Nat) }
               (Value.slice
                (some
                 {
                  block :=
                   (w.alloc
                      (Obj.cells
                       #[Value.slice none (0 : Nat) (0 : Nat), Value.bool false, Value.bool false, Value.bool false, Value.slice none (0 : Nat) (0 : Nat), Value.string { data := #[] },
                        Value.string { data := #[] }]
                       (136 : Nat))).heap.size,
                  off := (0 : Nat) })
                (1 : Nat) (1 : Nat))).setCell
             {block := w.heap.size, off := (1 : Nat) } (Value.bool false)).setCell
           {block := w.heap.size, off := (2 : Nat) } (Value.bool false)).setCell
         {block := w.heap.size, off := (3 : Nat) } (Value.bool false)).setCell
       {block := w.heap.size, off := (4 : Nat) } (Value.slice none (0 : Nat) (0 : Nat))).setCell
     {block := w.heap.size, off := (5 : Nat) } (Value.string { data := #[] })).setCell
   {block := w.heap.size, off := (6 : Nat) } (Value.string { data := #[] }))
theorem vcTryd98 (w : World) (R : Ending → World → Prop) : SX.vcFn Tryd.prog [] Tryd.f98 [] [] w R = VCTryd98  w R := by kernel_rfl
def VCTryd101 (p0 : Option Addr) (w : World) (R : Ending → World → Prop) : Prop :=
bif p0.isNone then R (Ending.returned (Value.tuple #[Value.slice none (0 : Nat) (0 : Nat), Value.bool false])) w
else
 SX.Ptr p0 fun (a0 : Addr) =>
  ∃ (t1 : Bool),
   w.cell? (a0.add (1 : Nat)) = some (Value.bool t1) ∧
    bif !t1 then R (Ending.returned (Value.tuple #[Value.slice none (0 : Nat) (0 : Nat), Value.bool false])) w
    else
     SX.Ptr p0 fun (a2 : Addr) =>
      ∃ (q3 : Option Addr),
       ∃ (n4 : Nat),
        ∃ (n5 : Nat),
         w.cell? (a2.add (4 : Nat)) = some (Value.slice q3 n4 n5) ∧
          Rets Tryd.prog (139 : Nat) #[Value.slice q3 n4 n5] w fun (v6 : Value) (w7 : World) =>
           ∃ (q8 : Option Addr), ∃ (n9 : Nat), ∃ (n10 : Nat), v6 = Value.slice q8 n9 n10 ∧ Keeps w w7 [] ∧ R (Ending.returned (Value.tuple #[Value.slice q8 n9 n10, Value.bool true])) w7
theorem vcTryd101 (p0 : Option Addr) (w : World) (R : Ending → World → Prop) : SX.vcFn Tryd.prog [] Tryd.f101 [.v (.pointer p0)] [] w R = VCTryd101 p0 w R := by kernel_rfl
def VCTryd135 (p0 : Option Addr) (n0 c0 : Nat) (p1 : Option Addr) (n1 c1 : Nat) (p2 : Value) (w : World) (R : Ending → World → Prop) : Prop :=
bif (↑n0 : Int) != (↑n1 : Int) then R (Ending.returned (Value.bool false)) w
else
 ∃ (I0 : Int → World → Prop),
  ∃ (I1 : Int → World → Nat),
   I0 (0 : Int) w ∧
    ∀ (i2 : Int) (w3 : World),
     I0 i2 w3 →
      bif decide (i2 < (↑n0 : Int)) then
       ((0 : Int) ≤ i2 ∧ i2 < (↑n0 : Int)) ∧
        SX.Ptr p0 fun (a4 : Addr) =>
         ∃ (s5 : ByteArray),
          ∃ (q6 : Option Addr),
           ∃ (n7 : Nat),
            ∃ (n8 : Nat),
             (w3.cell? ((a4.add (i2.toNat * (2 : Nat))).add (0 : Nat)) = some (Value.string s5) ∧ w3.cell? ((a4.add (i2.toNat * (2 : Nat))).add (1 : Nat)) = some (Value.slice q6 n7 n8) ∧ True) ∧
              ((0 : Int) ≤ i2 ∧ i2 < (↑n1 : Int)) ∧
               SX.Ptr p1 fun (a9 : Addr) =>
                ∃ (s10 : ByteArray),
                 ∃ (q11 : Option Addr),
                  ∃ (n12 : Nat),
                   ∃ (n13 : Nat),
                    ((((w3.alloc (Obj.cells #[Value.string { data := #[] }, Value.slice none (0 : Nat) (0 : Nat)] (107 : Nat))).setCell { block := w3.heap.size, off := (0 : Nat) }
                            (Value.string s5)).setCell
                          {block := w3.heap.size, off := (1 : Nat) } (Value.slice q6 n7 n8)).cell?
                        ((a9.add (i2.toNat * (2 : Nat))).add (0 : Nat)) =
                       some (Value.string s10) ∧
                      (((w3.alloc (Obj.cells #[Value.string { data := #[] }, Value.slice none (0 : Nat) (0 : Nat)] (107 : Nat))).setCell { block := w3.heap.size, off := (0 : Nat) }
                             (Value.string s5)).setCell
                           {block := w3.heap.size, off := (1 : Nat) } (Value.slice q6 n7 n8)).cell?
                         ((a9.add (i2.toNat * (2 : Nat))).add (1 : Nat)) =
                        some (Value.slice q11 n12 n13) ∧
                       True) ∧
                     (Known
                       ((((((w3.alloc (Obj.cells #[Value.string { data := #[] }, Value.slice none (0 : Nat) (0 : Nat)] (107 : Nat))).setCell { block := w3.heap.size, off := (0 : Nat) }
                                (Value.string s5)).setCell
                              {block := w3.heap.size, off := (1 : Nat) } (Value.slice q6 n7 n8)).alloc
                            (Obj.cells #[Value.string { data := #[] }, Value.slice none (0 : Nat) (0 : Nat)] (107 : Nat))).setCell
                          {
                           block :=
                            (((w3.alloc (Obj.cells #[Value.string { data := #[] }, Value.slice none (0 : Nat) (0 : Nat)] (107 : Nat))).setCell { block := w3.heap.size, off := (0 : Nat) }
                                 (Value.string s5)).setCell
                               {block := w3.heap.size, off := (1 : Nat) } (Value.slice q6 n7 n8)).heap.size,
                           off := (0 : Nat) }
                          (Value.string s10)).setCell
                        {
                         block :=
                          (((w3.alloc (Obj.cells #[Value.string { data := #[] }, Value.slice none (0 : Nat) (0 : Nat)] (107 : Nat))).setCell { block := w3.heap.size, off := (0 : Nat) }
                               (Value.string s5)).setCell
                             {block := w3.heap.size, off := (1 : Nat) } (Value.slice q6 n7 n8)).heap.size,
                         off := (1 : Nat) }
                        (Value.slice q11 n12 n13))
                       [(w3.heap.size, [((0 : Nat), Value.string s5), ((1 : Nat), Value.slice q6 n7 n8)]),
                        ((((w3.alloc (Obj.cells #[Value.string { data := #[] }, Value.slice none (0 : Nat) (0 : Nat)] (107 : Nat))).setCell { block := w3.heap.size, off := (0 : Nat) }
                              (Value.string s5)).setCell
                            {block := w3.heap.size, off := (1 : Nat) } (Value.slice q6 n7 n8)).heap.size,
                         [((0 : Nat), Value.string s10), ((1 : Nat), Value.slice q11 n12 n13)])] →
                      CallsVal Tryd.prog p2 #[Value.agg #[Value.string s5, Value.slice q6 n7 n8], Value.agg #[Value.string s10, Value.slice q11 n12 n13]]
                       ((((((w3.alloc (Obj.cells #[Value.string { data := #[] }, Value.slice none (0 : Nat) (0 : Nat)] (107 : Nat))).setCell { block := w3.heap.size, off := (0 : Nat) }
                                (Value.string s5)).setCell
                              {block := w3.heap.size, off := (1 : Nat) } (Value.slice q6 n7 n8)).alloc
                            (Obj.cells #[Value.string { data := #[] }, Value.slice none (0 : Nat) (0 : Nat)] (107 : Nat))).setCell
                          {
                           block :=
                            (((w3.alloc (Obj.cells #[Value.string { data := #[] }, Value.slice none (0 : Nat) (0 : Nat)] (107 : Nat))).setCell { block := w3.heap.size, off := (0 : Nat) }
                                 (Value.string s5)).setCell
                               {block := w3.heap.size, off := (1 : Nat) } (Value.slice q6 n7 n8)).heap.size,
                           off := (0 : Nat) }
                          (Value.string s10)).setCell
                        {
                         block :=
                          (((w3.alloc (Obj.cells #[Value.string { data := #[] }, Value.slice none (0 : Nat) (0 : Nat)] (107 : Nat))).setCell { block := w3.heap.size, off := (0 : Nat) }
                               (Value.string s5)).setCell
                             {block := w3.heap.size, off := (1 : Nat) } (Value.slice q6 n7 n8)).heap.size,
                         off := (1 : Nat) }
                        (Value.slice q11 n12 n13))
                       fun (v14 : Value) (w15 : World) =>
                       ∃ (t16 : Bool),
                        v14 = Value.bool t16 ∧
                         Keeps
                           ((((((w3.alloc (Obj.cells #[Value.string { data := #[] }, Value.slice none (0 : Nat) (0 : Nat)] (107 : Nat))).setCell { block := w3.heap.size, off := (0 : Nat) }
                                    (Value.string s5)).setCell
                                  {block := w3.heap.size, off := (1 : Nat) } (Value.slice q6 n7 n8)).alloc
                                (Obj.cells #[Value.string { data := #[] }, Value.slice none (0 : Nat) (0 : Nat)] (107 : Nat))).setCell
                              {
                               block :=
                                (((w3.alloc (Obj.cells #[Value.string { data := #[] }, Value.slice none (0 : Nat) (0 : Nat)] (107 : Nat))).setCell
                                     {block := w3.heap.size, off := (0 : Nat) } (Value.string s5)).setCell
                                   {block := w3.heap.size, off := (1 : Nat) } (Value.slice q6 n7 n8)).heap.size,
                               off := (0 : Nat) }
                              (Value.string s10)).setCell
                            {
                             block :=
                              (((w3.alloc (Obj.cells #[Value.string { data := #[] }, Value.slice none (0 : Nat) (0 : Nat)] (107 : Nat))).setCell { block := w3.heap.size, off := (0 : Nat) }
                                   (Value.string s5)).setCell
                                 {block := w3.heap.size, off := (1 : Nat) } (Value.slice q6 n7 n8)).heap.size,
                             off := (1 : Nat) }
                            (Value.slice q11 n12 n13))
                           w15
                           [w3.heap.size,
                            (((w3.alloc (Obj.cells #[Value.string { data := #[] }, Value.slice none (0 : Nat) (0 : Nat)] (107 : Nat))).setCell { block := w3.heap.size, off := (0 : Nat) }
                                 (Value.string s5)).setCell
                               {block := w3.heap.size, off := (1 : Nat) } (Value.slice q6 n7 n8)).heap.size] ∧
                          bif !t16 then
                           Known w15
                             [(w3.heap.size, [((0 : Nat), Value.string s5), ((1 : Nat), Value.slice q6 n7 n8)]),
                              ((((w3.alloc (Obj.cells #[Value.string { data := #[] }, Value.slice none (0 : Nat) (0 : Nat)] (107 : Nat))).setCell { block := w3.heap.size, off := (0 : Nat) }
                                    (Value.string s5)).setCell
                                  {block := w3.heap.size, off := (1 : Nat) } (Value.slice q6 n7 n8)).heap.size,
                               [((0 : Nat), Value.string s10), ((1 : Nat), Value.slice q11 n12 n13)])] →
                            R (Ending.returned (Value.bool false)) w15
                          else Wr IntKind.i64 (i2 + (1 : Int)) fun (i17 : Int) => I0 i17 w15 ∧ I1 i17 w15 < I1 i2 w3)
      else R (Ending.returned (Value.bool true)) w3
theorem vcTryd135 (p0 : Option Addr) (n0 c0 : Nat) (p1 : Option Addr) (n1 c1 : Nat) (p2 : Value) (w : World) (R : Ending → World → Prop) : SX.vcFn Tryd.prog [(4, ⟨[(17, .int .i64)], [2, 1, 15, 16], []⟩)] Tryd.f135 [.v (.slice p0 n0 c0), .v (.slice p1 n1 c1), .v p2] [] w R = VCTryd135 p0 n0 c0 p1 n1 c1 p2 w R := by kernel_rfl
def VCTryd137 (p0 : Option Addr) (n0 c0 : Nat) (p1 : ByteArray) (w : World) (R : Ending → World → Prop) : Prop :=
Rets Tryd.prog (171 : Nat) #[Value.slice p0 n0 c0, Value.string p1, Value.func (Fn.func (172 : Nat)) #[] #[]] w fun (v0 : Value) (w1 : World) =>
 ∃ (i2 : Int), ∃ (t3 : Bool), v0 = Value.tuple #[Value.int IntKind.i64 i2, Value.bool t3] ∧ Keeps w w1 [] ∧ R (Ending.returned (Value.tuple #[Value.int IntKind.i64 i2, Value.bool t3])) w1
theorem vcTryd137 (p0 : Option Addr) (n0 c0 : Nat) (p1 : ByteArray) (w : World) (R : Ending → World → Prop) : SX.vcFn Tryd.prog [] Tryd.f137 [.v (.slice p0 n0 c0), .v (.string p1)] [] w R = VCTryd137 p0 n0 c0 p1 w R := by kernel_rfl
def VCTryd138 (p0 : Option Addr) (n0 c0 : Nat) (w : World) (R : Ending → World → Prop) : Prop :=
bif p0.isNone then R (Ending.returned (Value.slice none (0 : Nat) (0 : Nat))) w
else
 Runs Tryd.prog (Instr.buildSlice (27 : Nat) (0 : Nat) #[]) w fun (v0 : Value) (w1 : World) =>
  ∃ (q2 : Option Addr),
   ∃ (n3 : Nat),
    ∃ (n4 : Nat),
     v0 = Value.slice q2 n3 n4 ∧
      Keeps w w1 [] ∧
       Runs Tryd.prog (Builtin.append_ #[(27 : Nat), (27 : Nat)] (27 : Nat) #[Value.slice q2 n3 n4, Value.slice p0 n0 c0]) w1 fun (v5 : Value) (w6 : World) =>
        ∃ (q7 : Option Addr), ∃ (n8 : Nat), ∃ (n9 : Nat), v5 = Value.slice q7 n8 n9 ∧ Keeps w1 w6 [] ∧ R (Ending.returned (Value.slice q7 n8 n9)) w6
theorem vcTryd138 (p0 : Option Addr) (n0 c0 : Nat) (w : World) (R : Ending → World → Prop) : SX.vcFn Tryd.prog [] Tryd.f138 [.v (.slice p0 n0 c0)] [] w R = VCTryd138 p0 n0 c0 w R := by kernel_rfl
def VCTryd139 (p0 : Option Addr) (n0 c0 : Nat) (w : World) (R : Ending → World → Prop) : Prop :=
Runs Tryd.prog (Instr.makeSlice (105 : Nat) (Value.int IntKind.i64 (0 : Int)) (Value.int IntKind.i64 (↑n0 : Int))) w fun (v0 : Value) (w1 : World) =>
 ∃ (q2 : Option Addr),
  ∃ (n3 : Nat),
   ∃ (n4 : Nat),
    v0 = Value.slice q2 n3 n4 ∧
     Keeps w w1 [] ∧
      ∃ (I5 : Int → Option Addr → Nat → Nat → World → Prop),
       ∃ (I6 : Int → Option Addr → Nat → Nat → World → Nat),
        I5 (0 : Int) q2 n3 n4 w1 ∧
         ∀ (i7 : Int) (q8 : Option Addr) (n9 n10 : Nat) (w11 : World),
          I5 i7 q8 n9 n10 w11 →
           bif decide (i7 < (↑n0 : Int)) then
            ((0 : Int) ≤ i7 ∧ i7 < (↑n0 : Int)) ∧
             SX.Ptr p0 fun (a12 : Addr) =>
              ∃ (s13 : ByteArray),
               ∃ (q14 : Option Addr),
                ∃ (n15 : Nat),
                 ∃ (n16 : Nat),
                  (w11.cell? ((a12.add (i7.toNat * (2 : Nat))).add (0 : Nat)) = some (Value.string s13) ∧
                    w11.cell? ((a12.add (i7.toNat * (2 : Nat))).add (1 : Nat)) = some (Value.slice q14 n15 n16) ∧ True) ∧
                   (Known
                     (((w11.alloc (Obj.cells #[Value.string { data := #[] }, Value.slice none (0 : Nat) (0 : Nat)] (107 : Nat))).setCell { block := w11.heap.size, off := (0 : Nat) }
                         (Value.string s13)).setCell
                       {block := w11.heap.size, off := (1 : Nat) } (Value.slice q14 n15 n16)).drew
                     [(w11.heap.size, [((0 : Nat), Value.string s13), ((1 : Nat), Value.slice q14 n15 n16)])] →
                    Rets Tryd.prog (138 : Nat) #[Value.slice q14 n15 n16]
                     (((w11.alloc (Obj.cells #[Value.string { data := #[] }, Value.slice none (0 : Nat) (0 : Nat)] (107 : Nat))).setCell { block := w11.heap.size, off := (0 : Nat) }
                         (Value.string s13)).setCell
                       {block := w11.heap.size, off := (1 : Nat) } (Value.slice q14 n15 n16)).drew
                     fun (v17 : Value) (w18 : World) =>
                     ∃ (q19 : Option Addr),
                      ∃ (n20 : Nat),
                       ∃ (n21 : Nat),
                        v17 = Value.slice q19 n20 n21 ∧
                         Keeps
                           (((w11.alloc (Obj.cells #[Value.string { data := #[] }, Value.slice none (0 : Nat) (0 : Nat)] (107 : Nat))).setCell { block := w11.heap.size, off := (0 : Nat) }
                               (Value.string s13)).setCell
                             {block := w11.heap.size, off := (1 : Nat) } (Value.slice q14 n15 n16)).drew
                           w18 [w11.heap.size] ∧
                          w18.cell? { block := w11.heap.size, off := (0 : Nat) } = some (Value.string s13) ∧
                           Runs Tryd.prog
                            (Builtin.append_ #[(105 : Nat), (105 : Nat)] (105 : Nat)
                             #[Value.slice q8 n9 n10, Value.slice (some { block := w18.heap.size, off := (0 : Nat) }) (1 : Nat) (1 : Nat)])
                            (w18.alloc (Obj.cells #[Value.string s13, Value.slice q19 n20 n21] (107 : Nat))) fun (v22 : Value) (w23 : World) =>
                            ∃ (q24 : Option Addr),
                             ∃ (n25 : Nat),
                              ∃ (n26 : Nat),
                               v22 = Value.slice q24 n25 n26 ∧
                                Keeps (w18.alloc (Obj.cells #[Value.string s13, Value.slice q19 n20 n21] (107 : Nat))) w23 [w11.heap.size] ∧
                                 Wr IntKind.i64 (i7 + (1 : Int)) fun (i27 : Int) => I5 i27 q24 n25 n26 w23 ∧ I6 i27 q24 n25 n26 w23 < I6 i7 q8 n9 n10 w11)
           else R (Ending.returned (Value.slice q8 n9 n10)) w11
theorem vcTryd139 (p0 : Option Addr) (n0 c0 : Nat) (w : World) (R : Ending → World → Prop) : SX.vcFn Tryd.prog [(3, ⟨[(11, .int .i64), (3, .slice)], [9, 10], []⟩)] Tryd.f139 [.v (.slice p0 n0 c0)] [] w R = VCTryd139 p0 n0 c0 w R := by kernel_rfl
def VCTryd140 (p0 : Option Addr) (n0 c0 : Nat) (p1 : Int) (p2 : Option Addr) (n2 c2 : Nat) (w : World) (R : Ending → World → Prop) : Prop :=
((0 : Int) ≤ p1 ∧ p1 ≤ (↑n0 : Int)) ∧
 bif (↑n2 : Int) == (0 : Int) then R (Ending.returned (Value.slice p0 n0 c0)) w
 else
  bif p1 == (↑n0 : Int) then
   Runs Tryd.prog (Builtin.append_ #[(105 : Nat), (105 : Nat)] (105 : Nat) #[Value.slice p0 n0 c0, Value.slice p2 n2 c2]) w fun (v0 : Value) (w1 : World) =>
    ∃ (q2 : Option Addr), ∃ (n3 : Nat), ∃ (n4 : Nat), v0 = Value.slice q2 n3 n4 ∧ Keeps w w1 [] ∧ R (Ending.returned (Value.slice q2 n3 n4)) w1
  else
   Wr IntKind.i64 ((↑n0 : Int) + (↑n2 : Int)) fun (i5 : Int) =>
    Runs Tryd.prog (Builtin.cap_ #[(105 : Nat)] (3 : Nat) #[Value.slice p0 n0 c0]) w fun (v6 : Value) (w7 : World) =>
     ∃ (i8 : Int),
      v6 = Value.int IntKind.i64 i8 ∧
       Keeps w w7 [] ∧
        bif decide (i5 > i8) then
         ((0 : Int) ≤ p1 ∧ p1 ≤ (↑c0 : Int)) ∧
          Wr IntKind.i64 ((↑n0 : Int) + (↑n2 : Int)) fun (i9 : Int) =>
           Wr IntKind.i64 (i9 - p1) fun (i10 : Int) =>
            Runs Tryd.prog (Builtin.append_ #[(105 : Nat), (3 : Nat)] (105 : Nat) #[Value.slice (cutA p0 c0 (0 : Nat) (2 : Nat)) (p1.toNat - (0 : Nat)) (c0 - (0 : Nat)), Value.int IntKind.i64 i10]) w7
             fun (v11 : Value) (w12 : World) =>
             ∃ (q13 : Option Addr),
              ∃ (n14 : Nat),
               ∃ (n15 : Nat),
                v11 = Value.slice q13 n14 n15 ∧
                 Keeps w7 w12 [] ∧
                  ((0 : Int) ≤ p1 ∧ p1 ≤ (↑n14 : Int)) ∧
                   Runs Tryd.prog (Builtin.copy_ #[(105 : Nat), (105 : Nat)] (3 : Nat) #[Value.slice (cutA q13 n15 p1.toNat (2 : Nat)) (n14 - p1.toNat) (n15 - p1.toNat), Value.slice p2 n2 c2]) w12
                    fun (v16 : Value) (w17 : World) =>
                    ∃ (i18 : Int),
                     v16 = Value.int IntKind.i64 i18 ∧
                      Keeps w12 w17 [] ∧
                       Wr IntKind.i64 (p1 + (↑n2 : Int)) fun (i19 : Int) =>
                        ((0 : Int) ≤ i19 ∧ i19 ≤ (↑n14 : Int)) ∧
                         ((0 : Int) ≤ p1 ∧ p1 ≤ (↑n0 : Int)) ∧
                          Runs Tryd.prog
                           (Builtin.copy_ #[(105 : Nat), (105 : Nat)] (3 : Nat)
                            #[Value.slice (cutA q13 n15 i19.toNat (2 : Nat)) (n14 - i19.toNat) (n15 - i19.toNat), Value.slice (cutA p0 c0 p1.toNat (2 : Nat)) (n0 - p1.toNat) (c0 - p1.toNat)])
                           w17.drew fun (v20 : Value) (w21 : World) => ∃ (i22 : Int), v20 = Value.int IntKind.i64 i22 ∧ Keeps w17.drew w21 [] ∧ R (Ending.returned (Value.slice q13 n14 n15)) w21
        else
         Wr IntKind.i64 ((↑n0 : Int) + (↑n2 : Int)) fun (i23 : Int) =>
          ((0 : Int) ≤ i23 ∧ i23 ≤ (↑c0 : Int)) ∧
           Wr IntKind.i64 (p1 + (↑n2 : Int)) fun (i24 : Int) =>
            ((0 : Int) ≤ i24 ∧ i24 ≤ (↑(i23.toNat - (0 : Nat)) : Int)) ∧
             RetsX Tryd.prog (173 : Nat)
              #[Value.slice p2 n2 c2, Value.slice (cutA (cutA p0 c0 (0 : Nat) (2 : Nat)) (c0 - (0 : Nat)) i24.toNat (2 : Nat)) (i23.toNat - (0 : Nat) - i24.toNat) (c0 - (0 : Nat) - i24.toNat)] w7
              fun (v25 : Value) (w26 : World) =>
              ∃ (t27 : Bool),
               v25 = Value.bool t27 ∧
                Keeps w7 w26 [] ∧
                 bif !t27 then
                  Wr IntKind.i64 (p1 + (↑n2 : Int)) fun (i28 : Int) =>
                   ((0 : Int) ≤ i28 ∧ i28 ≤ (↑(i23.toNat - (0 : Nat)) : Int)) ∧
                    ((0 : Int) ≤ p1 ∧ p1 ≤ (↑(i23.toNat - (0 : Nat)) : Int)) ∧
                     Runs Tryd.prog
                      (Builtin.copy_ #[(105 : Nat), (105 : Nat)] (3 : Nat)
                       #[Value.slice (cutA (cutA p0 c0 (0 : Nat) (2 : Nat)) (c0 - (0 : Nat)) i28.toNat (2 : Nat)) (i23.toNat - (0 : Nat) - i28.toNat) (c0 - (0 : Nat) - i28.toNat),
                        Value.slice (cutA (cutA p0 c0 (0 : Nat) (2 : Nat)) (c0 - (0 : Nat)) p1.toNat (2 : Nat)) (i23.toNat - (0 : Nat) - p1.toNat) (c0 - (0 : Nat) - p1.toNat)])
                      w26.drew fun (v29 : Value) (w30 : World) =>
                      ∃ (i31 : Int),
                       v29 = Value.int IntKind.i64 i31 ∧
                        Keeps w26.drew w30 [] ∧
                         ((0 : Int) ≤ p1 ∧ p1 ≤ (↑(i23.toNat - (0 : Nat)) : Int)) ∧
                          Runs Tryd.prog
                           (Builtin.copy_ #[(105 : Nat), (105 : Nat)] (3 : Nat)
                            #[Value.slice (cutA (cutA p0 c0 (0 : Nat) (2 : Nat)) (c0 - (0 : Nat)) p1.toNat (2 : Nat)) (i23.toNat - (0 : Nat) - p1.toNat) (c0 - (0 : Nat) - p1.toNat),
                             Value.slice p2 n2 c2])
                           w30 fun (v32 : Value) (w33 : World) =>
                           ∃ (i34 : Int),
                            v32 = Value.int IntKind.i64 i34 ∧ Keeps w30 w33 [] ∧ R (Ending.returned (Value.slice (cutA p0 c0 (0 : Nat) (2 : Nat)) (i23.toNat - (0 : Nat)) (c0 - (0 : Nat)))) w33
                 else
                  ((0 : Int) ≤ (↑n0 : Int) ∧ (↑n0 : Int) ≤ (↑(i23.toNat - (0 : Nat)) : Int)) ∧
                   Runs Tryd.prog
                    (Builtin.copy_ #[(105 : Nat), (105 : Nat)] (3 : Nat)
                     #[Value.slice (cutA (cutA p0 c0 (0 : Nat) (2 : Nat)) (c0 - (0 : Nat)) (↑n0 : Int).toNat (2 : Nat)) (i23.toNat - (0 : Nat) - (↑n0 : Int).toNat)
                       (c0 - (0 : Nat) - (↑n0 : Int).toNat),
                      Value.slice p2 n2 c2])
                    w26 fun (v35 : Value) (w36 : World) =>
                    ∃ (i37 : Int),
                     v35 = Value.int IntKind.i64 i37 ∧
                      Keeps w26 w36 [] ∧
                       ((0 : Int) ≤ p1 ∧ p1 ≤ (↑(i23.toNat - (0 : Nat)) : Int)) ∧
                        Rets Tryd.prog (174 : Nat)
                         #[Value.slice (cutA (cutA p0 c0 (0 : Nat) (2 : Nat)) (c0 - (0 : Nat)) p1.toNat (2 : Nat)) (i23.toNat - (0 : Nat) - p1.toNat) (c0 - (0 : Nat) - p1.toNat),
                          Value.int IntKind.i64 (↑n2 : Int)]
                         w36 fun (v38 : Value) (w39 : World) =>
                         v38 = Value.tuple #[] ∧ Keeps w36 w39 [] ∧ R (Ending.returned (Value.slice (cutA p0 c0 (0 : Nat) (2 : Nat)) (i23.toNat - (0 : Nat)) (c0 - (0 : Nat)))) w39
theorem vcTryd140 (p0 : Option Addr) (n0 c0 : Nat) (p1 : Int) (p2 : Option Addr) (n2 c2 : Nat) (w : World) (R : Ending → World → Prop) : SX.vcFn Tryd.prog [] Tryd.f140 [.v (.slice p0 n0 c0), .v (.int .i64 p1), .v (.slice p2 n2 c2)] [] w R = VCTryd140 p0 n0 c0 p1 p2 n2 c2 w R := by kernel_rfl
def VCTryd141 (p0 : Option Addr) (n0 c0 : Nat) (p1 : Int) (p2 : Int) (w : World) (R : Ending → World → Prop) : Prop :=
((0 : Int) ≤ (↑n0 : Int) ∧ (↑n0 : Int) ≤ (↑c0 : Int)) ∧
 ((0 : Int) ≤ p2 ∧ p2 ≤ (↑(↑n0 : Int).toNat : Int)) ∧
  ((0 : Int) ≤ p1 ∧ p1 ≤ (↑p2.toNat : Int)) ∧
   bif p1 == p2 then R (Ending.returned (Value.slice p0 n0 c0)) w
   else
    ((0 : Int) ≤ p1 ∧ p1 ≤ (↑c0 : Int)) ∧
     ((0 : Int) ≤ p2 ∧ p2 ≤ (↑n0 : Int)) ∧
      Runs Tryd.prog
       (Builtin.append_ #[(105 : Nat), (105 : Nat)] (105 : Nat)
        #[Value.slice (cutA p0 c0 (0 : Nat) (2 : Nat)) (p1.toNat - (0 : Nat)) (c0 - (0 : Nat)), Value.slice (cutA p0 c0 p2.toNat (2 : Nat)) (n0 - p2.toNat) (c0 - p2.toNat)])
       w.drew fun (v0 : Value) (w1 : World) =>
       ∃ (q2 : Option Addr),
        ∃ (n3 : Nat),
         ∃ (n4 : Nat),
          v0 = Value.slice q2 n3 n4 ∧
           Keeps w.drew w1 [] ∧
            ((0 : Int) ≤ (↑n0 : Int) ∧ (↑n0 : Int) ≤ (↑n4 : Int)) ∧
             ((0 : Int) ≤ (↑n3 : Int) ∧ (↑n3 : Int) ≤ (↑(↑n0 : Int).toNat : Int)) ∧
              Runs Tryd.prog (Builtin.clear_ #[(105 : Nat)] (0 : Nat) #[Value.slice (cutA q2 n4 (↑n3 : Int).toNat (2 : Nat)) ((↑n0 : Int).toNat - (↑n3 : Int).toNat) (n4 - (↑n3 : Int).toNat)]) w1
               fun (v5 : Value) (w6 : World) => v5 = Value.tuple #[] ∧ Keeps w1 w6 [] ∧ R (Ending.returned (Value.slice q2 n3 n4)) w6
theorem vcTryd141 (p0 : Option Addr) (n0 c0 : Nat) (p1 : Int) (p2 : Int) (w : World) (R : Ending → World → Prop) : SX.vcFn Tryd.prog [] Tryd.f141 [.v (.slice p0 n0 c0), .v (.int .i64 p1), .v (.int .i64 p2)] [] w R = VCTryd141 p0 n0 c0 p1 p2 w R := by kernel_rfl
def VCTryd171 (p0 : Option Addr) (n0 c0 : Nat) (p1 : ByteArray) (p2 : Value) (w : World) (R : Ending → World → Prop) : Prop :=
∃ (I0 : Int → Int → World → Prop),
 ∃ (I1 : Int → Int → World → Nat),
  I0 (↑n0 : Int) (0 : Int) w ∧
   ∀ (i2 i3 : Int) (w4 : World),
    I0 i2 i3 w4 →
     bif decide (i3 < i2) then
      Wr IntKind.i64 (i3 + i2) fun (i5 : Int) =>
       Wr IntKind.u64 i5 fun (i6 : Int) =>
        (0 : Int) ≤ (1 : Int) ∧
         Wr IntKind.i64 (shrI IntKind.u64 i6 (1 : Int)) fun (i7 : Int) =>
          ((0 : Int) ≤ i7 ∧ i7 < (↑n0 : Int)) ∧
           SX.Ptr p0 fun (a8 : Addr) =>
            ∃ (s9 : ByteArray),
             ∃ (q10 : Option Addr),
              ∃ (n11 : Nat),
               ∃ (n12 : Nat),
                (w4.cell? ((a8.add (i7.toNat * (2 : Nat))).add (0 : Nat)) = some (Value.string s9) ∧ w4.cell? ((a8.add (i7.toNat * (2 : Nat))).add (1 : Nat)) = some (Value.slice q10 n11 n12) ∧ True) ∧
                 CallsVal Tryd.prog p2 #[Value.agg #[Value.string s9, Value.slice q10 n11 n12], Value.string p1] w4 fun (v13 : Value) (w14 : World) =>
                  ∃ (i15 : Int),
                   v13 = Value.int IntKind.i64 i15 ∧
                    Keeps w4 w14 [] ∧
                     bif decide (i15 < (0 : Int)) then Wr IntKind.i64 (i7 + (1 : Int)) fun (i16 : Int) => I0 i2 i16 w14 ∧ I1 i2 i16 w14 < I1 i2 i3 w4 else I0 i7 i3 w14 ∧ I1 i7 i3 w14 < I1 i2 i3 w4
     else
      bif decide (i3 < (↑n0 : Int)) then
       ((0 : Int) ≤ i3 ∧ i3 < (↑n0 : Int)) ∧
        SX.Ptr p0 fun (a17 : Addr) =>
         ∃ (s18 : ByteArray),
          ∃ (q19 : Option Addr),
           ∃ (n20 : Nat),
            ∃ (n21 : Nat),
             (w4.cell? ((a17.add (i3.toNat * (2 : Nat))).add (0 : Nat)) = some (Value.string s18) ∧ w4.cell? ((a17.add (i3.toNat * (2 : Nat))).add (1 : Nat)) = some (Value.slice q19 n20 n21) ∧ True) ∧
              CallsVal Tryd.prog p2 #[Value.agg #[Value.string s18, Value.slice q19 n20 n21], Value.string p1] w4 fun (v22 : Value) (w23 : World) =>
               ∃ (i24 : Int), v22 = Value.int IntKind.i64 i24 ∧ Keeps w4 w23 [] ∧ R (Ending.returned (Value.tuple #[Value.int IntKind.i64 i3, Value.bool (i24 == (0 : Int))])) w23
      else R (Ending.returned (Value.tuple #[Value.int IntKind.i64 i3, Value.bool false])) w4
theorem vcTryd171 (p0 : Option Addr) (n0 c0 : Nat) (p1 : ByteArray) (p2 : Value) (w : World) (R : Ending → World → Prop) : SX.vcFn Tryd.prog [(3, ⟨[(10, .int .i64), (9, .int .i64)], [1, 0, 2, 8], []⟩)] Tryd.f171 [.v (.slice p0 n0 c0), .v (.string p1), .v p2] [] w R = VCTryd171 p0 n0 c0 p1 p2 w R := by kernel_rfl
def VCTryd136 (fs : ByteArray) (fq : Option Addr) (fn fc : Nat) (gs : ByteArray) (gq : Option Addr) (gn gc : Nat) (w : World) (R : Ending → World → Prop) : Prop :=
bif fs.toList == gs.toList then
 ∃ (s0 : ByteArray),
  s0.size = fn ∧
   BytesAt ((w.alloc (Obj.cells #[Value.string fs, Value.slice fq fn fc] (107 : Nat))).alloc (Obj.cells #[Value.string gs, Value.slice gq gn gc] (107 : Nat))) fq s0 ∧
    ∃ (s1 : ByteArray),
     s1.size = gn ∧
      BytesAt ((w.alloc (Obj.cells #[Value.string fs, Value.slice fq fn fc] (107 : Nat))).alloc (Obj.cells #[Value.string gs, Value.slice gq gn gc] (107 : Nat))) gq s1 ∧
       (Known ((w.alloc (Obj.cells #[Value.string fs, Value.slice fq fn fc] (107 : Nat))).alloc (Obj.cells #[Value.string gs, Value.slice gq gn gc] (107 : Nat)))
         [(w.heap.size, [((0 : Nat), Value.string fs), ((1 : Nat), Value.slice fq fn fc)]),
          ((w.alloc (Obj.cells #[Value.string fs, Value.slice fq fn fc] (107 : Nat))).heap.size, [((0 : Nat), Value.string gs), ((1 : Nat), Value.slice gq gn gc)])] →
        R (Ending.returned (Value.bool (s0.toList == s1.toList)))
         ((w.alloc (Obj.cells #[Value.string fs, Value.slice fq fn fc] (107 : Nat))).alloc (Obj.cells #[Value.string gs, Value.slice gq gn gc] (107 : Nat))))
else
 Known ((w.alloc (Obj.cells #[Value.string fs, Value.slice fq fn fc] (107 : Nat))).alloc (Obj.cells #[Value.string gs, Value.slice gq gn gc] (107 : Nat)))
   [(w.heap.size, [((0 : Nat), Value.string fs), ((1 : Nat), Value.slice fq fn fc)]),
    ((w.alloc (Obj.cells #[Value.string fs, Value.slice fq fn fc] (107 : Nat))).heap.size, [((0 : Nat), Value.string gs), ((1 : Nat), Value.slice gq gn gc)])] →
  R (Ending.returned (Value.bool false)) ((w.alloc (Obj.cells #[Value.string fs, Value.slice fq fn fc] (107 : Nat))).alloc (Obj.cells #[Value.string gs, Value.slice gq gn gc] (107 : Nat)))
theorem vcTryd136 (fs : ByteArray) (fq : Option Addr) (fn fc : Nat) (gs : ByteArray) (gq : Option Addr) (gn gc : Nat) (w : World) (R : Ending → World → Prop) : SX.vcFn Tryd.prog [] Tryd.f136 [.v (.agg #[.string fs, .slice fq fn fc]), .v (.agg #[.string gs, .slice gq gn gc])] [] w R = VCTryd136 fs fq fn fc gs gq gn gc w R := by kernel_rfl
def VCTryd172 (fs : ByteArray) (fq : Option Addr) (fn fc : Nat) (t : ByteArray) (w : World) (R : Ending → World → Prop) : Prop :=
Known (w.alloc (Obj.cells #[Value.string fs, Value.slice fq fn fc] (107 : Nat))) [(w.heap.size, [((0 : Nat), Value.string fs), ((1 : Nat), Value.slice fq fn fc)])] →
 Rets Tryd.prog (167 : Nat) #[Value.string fs, Value.string t] (w.alloc (Obj.cells #[Value.string fs, Value.slice fq fn fc] (107 : Nat))) fun (v0 : Value) (w1 : World) =>
  ∃ (i2 : Int),
   v0 = Value.int IntKind.i64 i2 ∧
    Keeps (w.alloc (Obj.cells #[Value.string fs, Value.slice fq fn fc] (107 : Nat))) w1 [w.heap.size] ∧
     (Known w1 [(w.heap.size, [((0 : Nat), Value.string fs), ((1 : Nat), Value.slice fq fn fc)])] → R (Ending.returned (Value.int IntKind.i64 i2)) w1)
theorem vcTryd172 (fs : ByteArray) (fq : Option Addr) (fn fc : Nat) (t : ByteArray) (w : World) (R : Ending → World → Prop) : SX.vcFn Tryd.prog [] Tryd.f172 [.v (.agg #[.string fs, .slice fq fn fc]), .v (.string t)] [] w R = VCTryd172 fs fq fn fc t w R := by kernel_rfl
end Go.Proofs.YtbpknjldphckgaaDoor

namespace Go.Proofs.YtbpknjldphckgaaDoor
open Go Go.SX Go.Proofs Go.Lib
set_option maxRecDepth 100000
set_option linter.unusedVariables false
set_option linter.unusedSimpArgs false
/-- A file: its name, its data, the place where they lie. -/
structure Fx where
  s : List UInt8
  d : List UInt8
  q : Option Addr
  c : Nat
abbrev Fx.fil (x : Fx) : Fil := (x.s, x.d)
def fxC (b : Fx) : List Value := [.string (ba b.s), .slice b.q b.d.length b.c]
def fxV (b : Fx) : Value := .agg #[.string (ba b.s), .slice b.q b.d.length b.c]
def fxsC : List Fx → List Value
  | [] => []
  | b :: r => fxC b ++ fxsC r
structure FxAt (w : World) (x : Addr) (b : Fx) : Prop where
  c0 : w.cell? (x.add 0) = some (.string (ba b.s))
  c1 : w.cell? (x.add 1) = some (.slice b.q b.d.length b.c)
def FxsAt (w : World) (q : Option Addr) (l : List Fx) : Prop := ∀ i (h : i < l.length), ∃ x, q = some x ∧ FxAt w (x.add (i * 2)) l[i]
theorem FxAt.kp {S : Nat → Prop} {w w' : World} {x : Addr} {b : Fx} (h : FxAt w x b) (k : Kp S w w') (hs : ¬ S x.block) : FxAt w' x b := by
  have go : ∀ i v, w.cell? (x.add i) = some v → w'.cell? (x.add i) = some v := fun i v hc => k.cell hc (by rw [add_block]; exact hs)
  exact ⟨go _ _ h.c0, go _ _ h.c1⟩
theorem FxsAt.kp {S : Nat → Prop} {w w' : World} {q : Option Addr} {l : List Fx} (h : FxsAt w q l) (k : Kp S w w') (hs : ∀ x, q = some x → 0 < l.length → ¬ S x.block) : FxsAt w' q l := fun i hi => by
  obtain ⟨x, e, m⟩ := h i hi
  exact ⟨x, e, m.kp k (by rw [add_block]; exact hs x e (by omega))⟩
theorem FxsAt.kp0 {w w' : World} {q : Option Addr} {l : List Fx} (h : FxsAt w q l) (k : Kp none_ w w') : FxsAt w' q l := h.kp k fun _ _ _ => id
theorem FxsAt.far {w w' : World} {q : Option Addr} {l : List Fx} {E : Nat} (h : FxsAt w q l) (k : Kp (fun i => E ≤ i) w w') (hE : w.heap.size ≤ E) : FxsAt w' q l := h.kp0 (k.narrow hE)
theorem fx_at {w : World} {q : Option Addr} {l : List Fx} (h : FxsAt w q l) {i : Nat} (hi : i < l.length) {K : Addr → Prop} (hK : ∀ x, q = some x → FxAt w (x.add (((i : Int).toNat) * 2)) l[i] → K x) : Ptr q K := by
  obtain ⟨x, e, m⟩ := h i hi
  subst e
  rw [ptr_some]
  exact hK x rfl (by rwa [Int.toNat_natCast])
theorem fxsC_app (a b : List Fx) : fxsC (a ++ b) = fxsC a ++ fxsC b := by
  induction a with
  | nil => simp [fxsC]
  | cons x r ih => simp only [List.cons_append, fxsC, ih, List.append_assoc]
theorem fxsC_get : ∀ (l : List Fx) (i : Nat) (h : i < l.length) (k : Nat), k < 2 → (fxsC l)[i * 2 + k]? = (fxC l[i])[k]?
  | b :: r, 0, h, k, hk => by
    rw [fxsC, List.getElem?_append_left (by simp [fxC]; omega)]
    simp
  | b :: r, i + 1, h, k, hk => by
    have hl : (fxC b).length = 2 := rfl
    rw [fxsC, List.getElem?_append_right (by rw [hl]; omega), hl, show (i + 1) * 2 + k - 2 = i * 2 + k by omega]
    exact fxsC_get r i (by simpa using h) k hk
theorem fxs_of {w : World} {own : Nat → Prop} {q : Option Addr} {n c : Nat} {l : List Fx} (h : OwnRow w own 107 2 (.slice q n c) l.length (fxsC l)) : FxsAt w q l := fun i hi => by
  have at_ : ∀ k u, k < 2 → (fxC l[i])[k]? = some u → ∃ a, q = some a ∧ w.cell? (a.add (i * 2 + k)) = some u := fun k u hk hu => h.at (by rw [fxsC_get l i hi k hk]; exact hu)
  obtain ⟨a, e, c0⟩ := at_ 0 _ (by omega) rfl
  have go : ∀ k u, k < 2 → (fxC l[i])[k]? = some u → w.cell? ((a.add (i * 2)).add k) = some u := fun k u hk hu => by
    obtain ⟨a', e', c⟩ := at_ k u hk hu
    rw [e] at e'
    cases e'
    rw [add_add]
    exact c
  exact ⟨a, e, go 0 _ (by omega) rfl, go 1 _ (by omega) rfl⟩
theorem elem107 : elemOk Tryd.prog 107 2 = true := by kernel_rfl
theorem und105 : Tryd.prog.underlying 105 = some (.slice 107) := Tryd.underlying105
theorem fxsC_len (l : List Fx) : (fxsC l).length = l.length * 2 := by
  induction l with
  | nil => rfl
  | cons b r ih => simp only [fxsC, List.length_append, ih, List.length_cons, fxC]; simp; omega
theorem fxsC_one (l : List Fx) : ∀ u ∈ fxsC l, u.oneCell' = true := by
  induction l with
  | nil => intro u hu; cases hu
  | cons b r ih =>
    intro u hu
    rw [fxsC] at hu
    rcases List.mem_append.1 hu with hu | hu
    · simp only [fxC, List.mem_cons, List.not_mem_nil, or_false] at hu
      rcases hu with rfl | rfl <;> simp [Value.oneCell']
    · exact ih u hu
theorem fxsC_take (l : List Fx) (i : Nat) : (fxsC l).take (i * 2) = fxsC (l.take i) := by
  induction l generalizing i with
  | nil => simp [fxsC]
  | cons b r ih =>
    cases i with
    | zero => simp [fxsC]
    | succ i =>
      have hl : (fxC b).length = 2 := rfl
      rw [List.take_succ_cons, fxsC, fxsC, List.take_append, hl, ← ih i, List.take_of_length_le (by rw [hl]; omega), show (i + 1) * 2 - 2 = i * 2 by omega]
theorem fxsC_drop (l : List Fx) (i : Nat) : (fxsC l).drop (i * 2) = fxsC (l.drop i) := by
  induction l generalizing i with
  | nil => simp [fxsC]
  | cons b r ih =>
    cases i with
    | zero => simp [fxsC]
    | succ i =>
      have hl : (fxC b).length = 2 := rfl
      rw [List.drop_succ_cons, fxsC, List.drop_append, hl, ← ih i, List.drop_eq_nil_of_le (by rw [hl]; omega), show (i + 1) * 2 - 2 = i * 2 by omega, List.nil_append]
/-- A file, laid just before, behind a row. -/
theorem push_fx {w : World} {own : Nat → Prop} {v : Value} {l : List Fx} {n : Nat} (b : Fx) {K : Value → World → Prop} (hrow : OwnRow w own 107 2 v n (fxsC l)) (hn : n = l.length) (hb : l.length + 1 ≤ 137438953472)
    (hK : ∀ q' c' w', OwnRow w' (fun i => own i ∨ fresh w i) 107 2 (.slice q' (l.length + 1) c') (l.length + 1) (fxsC (l ++ [b])) → Kp own w w' → Kp own (w.alloc (.cells #[.string (ba b.s), .slice b.q b.d.length b.c] 107)) w' → K (.slice q' (l.length + 1) c') w') :
    Runs Tryd.prog (Builtin.append_ #[105, 105] 105 #[v, .slice (some ⟨w.heap.size, 0, none⟩) 1 1]) (w.alloc (.cells #[.string (ba b.s), .slice b.q b.d.length b.c] 107)) K := by
  subst hn
  refine append_new (own := own) (xs := fxsC l) #[.string (ba b.s), .slice b.q b.d.length b.c] und105 elem107 (by omega) hrow rfl (fun u hu => ?_) hb fun q' c' w' r k1 k2 => hK q' c' w' ?_ k1 k2
  · exact fxsC_one [b] u (by simpa [fxsC, fxC] using hu)
  · rw [fxsC_app]
    simpa [fxsC, fxC] using r
/-- Its data are there. -/
structure DatAt (w : World) (x : Fx) : Prop where
  by_ : BytesAt w x.q (ba x.d)
  le : x.d.length ≤ x.c ∧ x.c ≤ maxLen
def DatIn (O : Nat → Prop) (x : Fx) : Prop := 0 < x.d.length → ∀ a, x.q = some a → O a.block
theorem DatAt.kp {S O : Nat → Prop} {w w' : World} {x : Fx} (h : DatAt w x) (hi : DatIn O x) (k : Kp S w w') (hs : ∀ i, i < w.heap.size → O i → ¬ S i) : DatAt w' x :=
  ⟨h.by_.kp k fun h0 a ha => hs _ (h.by_.lt h0 a ha) (hi (by simpa [ba_size] using h0) a ha), h.le⟩
theorem DatAt.kp0 {w w' : World} {x : Fx} (h : DatAt w x) (k : Kp none_ w w') : DatAt w' x := ⟨h.by_.kp0 k, h.le⟩
theorem DatIn.mono {w : World} {O O' : Nat → Prop} {x : Fx} (h : DatIn O x) (hd : DatAt w x) (hs : ∀ i, i < w.heap.size → O i → O' i) : DatIn O' x := fun h0 a ha => hs _ (hd.by_.lt (by rwa [ba_size]) a ha) (h h0 a ha)
/-- Files that are read. -/
def FRd (w : World) (q : Option Addr) (n : Nat) (L : List Fil) : Prop := ∃ l : List Fx, l.map Fx.fil = L ∧ n = l.length ∧ FxsAt w q l ∧ ∀ x ∈ l, DatAt w x
/-- Files that lie in blocks of one's own: the row in some, the data in others. -/
def FOwn (w : World) (O : Nat → Prop) (v : Value) (L : List Fil) : Prop := ∃ (l : List Fx) (own : Nat → Prop), l.map Fx.fil = L ∧ (∀ i, own i → O i) ∧ OwnRow w own 107 2 v l.length (fxsC l) ∧ ∀ x ∈ l, DatAt w x ∧ DatIn (fun i => O i ∧ ¬ own i) x
theorem FRd.len {w : World} {q : Option Addr} {n : Nat} {L : List Fil} (h : FRd w q n L) : n = L.length := by
  obtain ⟨l, rfl, rfl, _⟩ := h
  simp
theorem FRd.kp0 {w w' : World} {q : Option Addr} {n : Nat} {L : List Fil} (h : FRd w q n L) (k : Kp none_ w w') : FRd w' q n L := by
  obtain ⟨l, h1, h2, h3, h4⟩ := h
  exact ⟨l, h1, h2, h3.kp0 k, fun x hx => (h4 x hx).kp0 k⟩
theorem FOwn.rd {w : World} {O : Nat → Prop} {v : Value} {L : List Fil} (h : FOwn w O v L) : ∃ q c, v = .slice q L.length c ∧ FRd w q L.length L := by
  obtain ⟨l, own, rfl, _, h2, h3⟩ := h
  obtain ⟨q, c, rfl⟩ := h2.slice
  exact ⟨q, c, by simp, l, rfl, by simp, fxs_of h2, fun x hx => (h3 x hx).1⟩
theorem FOwn.kp {S O O' : Nat → Prop} {w w' : World} {v : Value} {L : List Fil} (h : FOwn w O v L) (k : Kp S w w') (hs : ∀ i, i < w.heap.size → O i → ¬ S i ∧ O' i) : FOwn w' O' v L := by
  obtain ⟨l, own, h1, ho, hr, h3⟩ := h
  refine ⟨l, fun i => own i ∧ i < w.heap.size, h1, fun i hi => (hs i hi.2 (ho i hi.1)).2, (hr.mono (own' := fun i => own i ∧ i < w.heap.size) fun i hi hl => ⟨hi, hl⟩).kp k fun g n cap _ hg => (hs g hg.2 (ho g hg.1)).1, fun x hx => ?_⟩
  obtain ⟨hd, hi⟩ := h3 x hx
  exact ⟨hd.kp hi k fun i hl hoi => (hs i hl hoi.1).1, hi.mono hd fun i hl hoi => ⟨(hs i hl hoi.1).2, fun hh => hoi.2 hh.1⟩⟩
theorem FOwn.kp0 {O : Nat → Prop} {w w' : World} {v : Value} {L : List Fil} (h : FOwn w O v L) (k : Kp none_ w w') : FOwn w' O v L := h.kp k fun i _ hi => ⟨id, hi⟩
theorem FOwn.mono {O O' : Nat → Prop} {w : World} {v : Value} {L : List Fil} (h : FOwn w O v L) (hs : ∀ i, i < w.heap.size → O i → O' i) : FOwn w O' v L := h.kp (Kp.refl none_ w) fun i hl hi => ⟨id, hs i hl hi⟩
theorem FOwn.nil (w : World) (O : Nat → Prop) : FOwn w O (.slice none 0 0) [] := ⟨[], fun _ => False, rfl, fun _ h => h.elim, OwnRow.nil _ _ _ _, fun x hx => by cases hx⟩
/-- The own sets cut down to what exists. -/
theorem FOwn.cut {w : World} {O : Nat → Prop} {v : Value} {L : List Fil} (h : FOwn w O v L) : FOwn w (fun i => O i ∧ i < w.heap.size) v L := h.mono fun i hl hi => ⟨hi, hl⟩
/-- A copy of bytes. -/
theorem c138 {w : World} {q : Option Addr} {c : Nat} {d : List UInt8} (h : BytesAt w q (ba d)) (hd : d.length ≤ 1000000000) : Rets Tryd.prog 138 #[.slice q d.length c] w fun v w' =>
    ∃ x : Fx, v = .slice x.q d.length x.c ∧ x.d = d ∧ DatAt w' x ∧ DatIn (fun i => w.heap.size ≤ i) x ∧ Kp none_ w w' := by
  refine ent [_] Tryd.func138 ((vcTryd138 _ _ _ w _).mpr ?_)
  unfold VCTryd138
  cases q with
  | none =>
    have : d = [] := by
      cases d with
      | nil => rfl
      | cons b r =>
        obtain ⟨x, e, _⟩ := h 0 (by rw [ba_size]; simp)
        cases e
    subst this
    exact ⟨_, rfl, ⟨[], [], none, 0⟩, rfl, rfl, ⟨fun i hi => absurd hi (by rw [ba_size]; simp), by simp [maxLen]⟩, fun h0 => absurd h0 (by simp), Kp.refl _ _⟩
  | some x =>
    show Runs _ _ _ _
    refine lit_buf und27 byte5 fun v1 w1 b1 k1 => ?_
    obtain ⟨q1, c1, rfl, _⟩ := b1.slice
    refine ⟨_, _, _, rfl, k1.keeps0, buf_app und27 byte5 b1 k1.size rfl (h.kp0 k1) (by simp; omega) fun v2 w2 b2 k2 => ?_⟩
    obtain ⟨q2, c2, rfl, h1, h2⟩ := b2.slice
    rw [List.nil_append] at *
    refine ⟨_, _, _, rfl, k2.keeps0, _, rfl, ⟨[], d, q2, c2⟩, rfl, rfl, ⟨b2.bytes, h1, h2⟩, fun h0 a ha => ?_, (k1.wide.trans k2).narrow (Nat.le_refl _)⟩
    rcases b2 with ⟨_, h0'⟩ | ⟨g, cap, cur, fr, e, hg, _⟩
    · have h0 : 0 < d.length := h0
      rw [h0'] at h0; simp at h0
    · have ha : q2 = some a := ha
      rw [ha] at e
      cases e
      exact hg
end Go.Proofs.YtbpknjldphckgaaDoor

namespace Go.Proofs.YtbpknjldphckgaaDoor
open Go Go.SX Go.Proofs Go.Lib
set_option maxRecDepth 100000
set_option linter.unusedVariables false
set_option linter.unusedSimpArgs false
theorem wru64 {z : Int} {K : Int → Prop} (h : 0 ≤ z ∧ z < 18446744073709551616) (hK : K z) : Wr .u64 z K := by
  have : IntKind.wrap .u64 z = z := by
    simp [IntKind.wrap, IntKind.bits, IntKind.signed]
    omega
  unfold Wr; rw [this]; exact hK
theorem compare_less : ∀ a b : List UInt8, (Lib.compareBytes a b < 0 ↔ Op.bytesLess a b = true) ∧ (Lib.compareBytes a b = 0 ↔ a = b)
  | [], [] => by simp [Lib.compareBytes, Op.bytesLess]
  | [], _ :: _ => by simp [Lib.compareBytes, Op.bytesLess]
  | _ :: _, [] => by simp [Lib.compareBytes, Op.bytesLess]
  | x :: a, y :: b => by
    obtain ⟨h1, h2⟩ := compare_less a b
    unfold Lib.compareBytes
    rw [less_cons_iff]
    by_cases hxy : x < y
    · have hxy' : x.toNat < y.toNat := UInt8.lt_iff_toNat_lt.1 hxy
      rw [if_pos hxy]
      refine ⟨⟨fun _ => .inl hxy', fun _ => by decide⟩, ⟨fun h => (by cases h), fun h => ?_⟩⟩
      injection h with h _
      subst h; omega
    · have hxy' : ¬ x.toNat < y.toNat := fun h => hxy (UInt8.lt_iff_toNat_lt.2 h)
      rw [if_neg hxy]
      by_cases hyx : y < x
      · have hyx' : y.toNat < x.toNat := UInt8.lt_iff_toNat_lt.1 hyx
        rw [if_pos hyx]
        refine ⟨⟨fun h => (by cases h), fun h => ?_⟩, ⟨fun h => (by cases h), fun h => ?_⟩⟩
        · rcases h with h | ⟨rfl, _⟩ <;> omega
        · injection h with h _
          subst h; omega
      · have hyx' : ¬ y.toNat < x.toNat := fun h => hyx (UInt8.lt_iff_toNat_lt.2 h)
        have e : x = y := UInt8.toNat_inj.1 (by omega)
        subst e
        rw [if_neg hyx]
        refine ⟨⟨fun h => .inr ⟨rfl, h1.1 h⟩, fun h => ?_⟩, ⟨fun h => by rw [h2.1 h], fun h => ?_⟩⟩
        · rcases h with h | ⟨_, h⟩
          · exact absurd h hxy'
          · exact h1.2 h
        · injection h with _ h
          exact h2.2 h
theorem bytesL_ba (l : List UInt8) : bytesL (ba l) = l := ba_list _
abbrev kF : Fx → List UInt8 := Fx.s
theorem c167 (a b : ByteArray) (w : World) : Rets Tryd.prog 167 #[.string a, .string b] w fun v w' => v = .int .i64 (Lib.compareBytes (bytesL a) (bytesL b)) ∧ w' = w :=
  Calls.mono (Tryd.strings_Compare a b w) fun e w' ⟨h1, h2⟩ => ⟨_, h1, rfl, h2⟩
theorem c172 (b : Fx) (t : ByteArray) (w : World) : Rets Tryd.prog 172 #[fxV b, .string t] w fun v w' => v = .int .i64 (Lib.compareBytes b.s (bytesL t)) ∧ Kp none_ w w' := by
  refine ent [_, _] Tryd.func172 ((vcTryd172 _ _ _ _ _ w _).mpr ?_)
  unfold VCTryd172
  intro _
  refine (c167 _ _ _).mono ?_
  rintro v w1 ⟨rfl, rfl⟩
  rw [bytesL_ba]
  exact ⟨_, rfl, (Kp.refl none_ _).k0 (by rw [alloc_size]; omega), fun _ => ⟨_, rfl, rfl, (Kp.refl none_ w).alloc1 _⟩⟩
theorem isGo172 : isGo Tryd.prog 172 = true := by kernel_rfl
theorem c171 {w : World} {q : Option Addr} {c : Nat} {l : List Fx} (h : FxsAt w q l) (ha : Asc kF l) (hl : l.length ≤ 1000000) (s : ByteArray) : Rets Tryd.prog 171 #[.slice q l.length c, .string s, .func (.func 172) #[] #[]] w fun v w' =>
    v = .tuple #[.int .i64 (pos kF l (bytesL s)), .bool (has kF l (bytesL s))] ∧ Kp none_ w w' := by
  refine ent [_, _, _] Tryd.func171 ((vcTryd171 _ _ _ _ _ w _).mpr ?_)
  unfold VCTryd171
  refine ⟨fun jj ii w' => ∃ i j : Nat, ii = i ∧ jj = j ∧ i ≤ j ∧ j ≤ l.length ∧ Kp none_ w w' ∧ (∀ k (hk : k < l.length), k < i → Op.bytesLess (l[k]).s (bytesL s) = true) ∧ ∀ k (hk : k < l.length), j ≤ k → Op.bytesLess (l[k]).s (bytesL s) = false, fun jj ii _ => (jj - ii).toNat,
    ⟨0, l.length, rfl, rfl, by omega, by omega, Kp.refl _ _, fun k hk h => by omega, fun k hk h => by omega⟩, ?_⟩
  rintro jj ii w1 ⟨i, j, rfl, rfl, hij, hj, k1, hlo, hhi⟩
  refine bif_dec (fun hlt => wr64 (by omega) (wru64 (by omega) ⟨by decide, ?_⟩)) (fun hge => ?_)
  · have es : shrI .u64 ((i : Int) + (j : Int)) 1 = (((i + j) / 2 : Nat) : Int) := by
      unfold shrI
      have : min (1 : Int).toNat IntKind.u64.bits = 1 := by decide
      rw [this]
      rw [Int.fdiv_eq_ediv_of_nonneg _ (by decide)]
      omega
    rw [es]
    generalize hm : (i + j) / 2 = m
    have hmi : i ≤ m := by omega
    have hmj : m < j := by omega
    refine wr64 (by omega) ⟨⟨by omega, by omega⟩, fx_at (h.kp0 k1) (by omega) fun x _ mx => ⟨_, _, _, _, ⟨mx.c0, mx.c1, trivial⟩, isGo172, ?_⟩⟩
    show Rets Tryd.prog 172 #[fxV l[m], .string s] w1 _
    refine (c172 _ s w1).mono ?_
    rintro v w2 ⟨rfl, k2⟩
    have hc := compare_less (l[m]'(by omega)).s (bytesL s)
    refine ⟨_, rfl, k2.keeps0, bif_dec (fun hl => wr64 (by omega) ⟨⟨m + 1, j, by omega, rfl, by omega, hj, k1.trans k2, fun k hk hk2 => ?_, hhi⟩, by first | omega | (dsimp only; omega)⟩) (fun hl => ⟨⟨i, m, rfl, rfl, hmi, by omega, k1.trans k2, hlo, fun k hk hk2 => ?_⟩, by first | omega | (dsimp only; omega)⟩)⟩
    · by_cases e : k = m
      · subst e; exact hc.1.1 hl
      · have a := hc.1.1 hl
        exact less_trans _ _ _ (asc_get ha k m (by omega) (by omega)) a
    · cases hb : Op.bytesLess (l[k]).s (bytesL s) with
      | false => rfl
      | true =>
        exfalso
        refine hl (hc.1.2 ?_)
        by_cases e : k = m
        · subst e; exact hb
        · exact less_trans _ _ _ (asc_get ha m k (by omega) hk) hb
  · have eij : i = j := by omega
    subst eij
    have ep : i = pos kF l (bytesL s) := pos_unique ha hj hlo hhi
    have eh := has_eq ha (bytesL s)
    rw [← ep] at eh ⊢
    refine bif_dec (fun hlt => ⟨⟨by omega, by omega⟩, fx_at (h.kp0 k1) (by omega) fun x _ mx => ⟨_, _, _, _, ⟨mx.c0, mx.c1, trivial⟩, isGo172, ?_⟩⟩) (fun hge2 => ⟨_, rfl, ?_, k1⟩)
    · show Rets Tryd.prog 172 #[fxV l[i], .string s] w1 _
      refine (c172 _ s w1).mono ?_
      rintro v w2 ⟨rfl, k2⟩
      refine ⟨_, rfl, k2.keeps0, _, rfl, ?_, k1.trans k2⟩
      rw [List.getElem?_eq_getElem (by omega)] at eh
      simp only at eh
      rw [eh]
      have hc := (compare_less (l[i]'(by omega)).s (bytesL s)).2
      have e2 : (Lib.compareBytes (l[i]'(by omega)).s (bytesL s) == 0) = (kF (l[i]'(by omega)) == bytesL s) := by
        rw [Bool.eq_iff_iff]
        simp only [beq_iff_eq]
        exact hc
      rw [e2]
    · rw [List.getElem?_eq_none (by omega)] at eh
      simp only at eh
      rw [eh]

theorem pos_map {l : List Fx} (s : List UInt8) : pos Prod.fst (l.map Fx.fil) s = pos kF l s := by
  induction l with
  | nil => rfl
  | cons x r ih => simp only [List.map_cons, pos, ih]
theorem has_map {l : List Fx} (s : List UInt8) : has Prod.fst (l.map Fx.fil) s = has kF l s := by
  unfold has
  rw [List.any_map]
  rfl
theorem kso {O : Nat → Prop} {w w' : World} {g : Nat} (k : Kp O w w') (hg : ¬ O g) (hl : g < w.heap.size) : Keeps w w' [g] := k.keeps fun b hb => by
  rw [List.mem_singleton] at hb
  subst hb
  exact ⟨hl, hg⟩
theorem asc_map {l : List Fx} : Asc Prod.fst (l.map Fx.fil) ↔ Asc kF l := by
  induction l with
  | nil => exact Iff.rfl
  | cons x r ih =>
    simp only [List.map_cons, Asc, ih, List.mem_map, forall_exists_index, and_imp, forall_apply_eq_imp_iff₂]
theorem c137 {w : World} {q : Option Addr} {c n : Nat} {L : List Fil} (h : FRd w q n L) (ha : Asc Prod.fst L) (hl : L.length ≤ 1000000) (s : ByteArray) : Rets Tryd.prog 137 #[.slice q n c, .string s] w fun v w' =>
    v = .tuple #[.int .i64 (pos Prod.fst L (bytesL s)), .bool (has Prod.fst L (bytesL s))] ∧ Kp none_ w w' := by
  obtain ⟨l, rfl, rfl, hx, hd⟩ := h
  refine ent [_, _] Tryd.func137 ((vcTryd137 _ _ _ _ w _).mpr ?_)
  unfold VCTryd137
  rw [pos_map, has_map]
  refine (c171 hx (asc_map.1 ha) (by simpa using hl) s).mono ?_
  rintro v w1 ⟨rfl, k1⟩
  exact ⟨_, _, rfl, k1.keeps0, _, rfl, rfl, k1⟩
/-- 'make([]T, 0, n)' -/
theorem make_cap2 {P : Program} {w : World} {t e : TypeId} {n size : Nat} {K : Value → World → Prop} (hs0 : 0 < size) (ht : P.underlying t = some (.slice e)) (he : elemOk P e size = true) (hn : n ≤ 137438953472)
    (hK : ∀ w', OwnRow w' (fresh w) e size (.slice (some ⟨w.heap.size, 0, none⟩) 0 n) 0 [] → Kp none_ w w' → K (.slice (some ⟨w.heap.size, 0, none⟩) 0 n) w') :
    Runs P (Instr.makeSlice t (.int .i64 0) (.int .i64 n)) w K := by
  obtain ⟨i, z, hi, hz, hsize, hzc, hby⟩ := elemOk_spec he
  have hw : IntKind.i64.wrap (n : Int) = n := by rw [IntKind.wrap_i64]; omega
  have hw0 : IntKind.i64.wrap 0 = 0 := by decide
  have hb : i.bytes * n ≤ 281474976710656 := Nat.le_trans (Nat.mul_le_mul_right n hby) (by omega)
  have hbi : ¬ (281474976710656 < (i.bytes : Int) * (n : Int)) := by
    rw [← Int.natCast_mul]
    omega
  have hneg : ¬ ((n : Int) < 0) := by omega
  have hr : ∃ cur : Array Value, cur.size = n * size ∧ (Instr.makeSlice t (.int .i64 0) (.int .i64 n)).run P w = .ok (.slice (some ⟨w.heap.size, 0, none⟩) 0 n) (w.alloc (.cells cur e)) := by
    by_cases h0 : n = 0
    · subst h0
      refine ⟨_, ?_, by
        simp [Instr.makeSlice, run_underlying ht, sizeOf, typeInfo, zeroValue, hi, hz, asInt, asIntOf, hw0, hsize, newRow]
        rfl⟩
      simp
    · have hns : n * size ≠ 0 := Nat.mul_ne_zero h0 (by omega)
      refine ⟨_, ?_, by
        simp [Instr.makeSlice, run_underlying ht, sizeOf, typeInfo, zeroValue, hi, hz, asInt, asIntOf, hw, hw0, hbi, hneg, hsize, h0, newRow]
        rw [if_neg (by omega)]⟩
      simp
  obtain ⟨cur, hcs, hr⟩ := hr
  refine ⟨_, _, hr, hK _ ⟨by simp, .inr ⟨w.heap.size, n, _, rfl, Nat.le_refl _, by rw [alloc_get]; exact if_pos rfl, by omega, by simp only [maxLen]; omega, hcs, by simp⟩⟩ ((Kp.refl none_ w).alloc _ _)⟩
end Go.Proofs.YtbpknjldphckgaaDoor

namespace Go.Proofs.YtbpknjldphckgaaDoor
open Go Go.SX Go.Proofs Go.Lib
set_option maxRecDepth 100000
set_option linter.unusedVariables false
set_option linter.unusedSimpArgs false
theorem zero107 : ZeroOk Tryd.prog 107 2 (.agg #[.string ⟨#[]⟩, .slice none 0 0]) := by
  refine ⟨?_, rfl, fun u hu => ?_⟩
  · have h : (Tryd.prog.info? 107).map (fun i => i.zero) = some (some (.agg #[.string ⟨#[]⟩, .slice none 0 0])) := by kernel_rfl
    obtain ⟨i, hi, hh⟩ := Option.map_eq_some_iff.1 h
    exact ⟨i, hi, hh⟩
  · simp [Value.cells] at hu
    rcases hu with rfl | rfl <;> simp [Value.oneCell']
theorem und3 : Tryd.prog.underlying 3 = some (.int .i64) := Tryd.underlying3
theorem row_some {w : World} {own : Nat → Prop} {q : Option Addr} {c n m : Nat} {xs : List Value} (hr : OwnRow w own 107 2 (.slice q m c) n xs) (hn : 0 < n) : ∃ g, q = some ⟨g, 0, none⟩ := by
  obtain ⟨g, _, e, _⟩ := hr.parts hn
  exact ⟨g, e⟩
theorem c141 {w : World} {own : Nat → Prop} {q : Option Addr} {c i : Nat} {l : List Fx} (hr : OwnRow w own 107 2 (.slice q l.length c) l.length (fxsC l)) (hi : i < l.length) : Rets Tryd.prog 141 #[.slice q l.length c, .int .i64 i, .int .i64 ((i + 1 : Nat) : Int)] w fun v w' =>
    ∃ q' c', v = .slice q' (l.length - 1) c' ∧ OwnRow w' own 107 2 (.slice q' (l.length - 1) c') (l.length - 1) (fxsC (l.take i ++ l.drop (i + 1))) ∧ Kp own w w' := by
  refine ent [_, _, _] Tryd.func141 ((vcTryd141 _ _ _ _ _ w _).mpr ?_)
  unfold VCTryd141
  have hc := hr.lens.2
  obtain ⟨g, rfl⟩ := row_some hr (by omega)
  simp only [Int.toNat_natCast, Nat.sub_zero, cut_zero]
  refine ⟨⟨by omega, by omega⟩, ⟨by omega, by omega⟩, ⟨by omega, by omega⟩, bif_eq (fun e => absurd e (by omega)) (fun _ => ⟨⟨by omega, by omega⟩, ⟨by omega, by omega⟩, ?_⟩)⟩
  have hr1 := (hr.front (i := i) (by omega)).kp (Kp.refl none_ w).drew fun _ _ _ _ _ => id
  rw [fxsC_take] at hr1
  refine append_room (m := l.length - (i + 1)) (news := fxsC (l.drop (i + 1))) und105 elem107 (by omega) hr1 ⟨_, rfl⟩ (by rw [fxsC_len, List.length_drop]) (fun j u hj => ?_) (fxsC_one _) (by omega) fun w1 r1 k1 => ?_
  · have hne : c ≠ i + 1 := fun e => by
      have : l.drop (i + 1) = [] := List.drop_eq_nil_of_le (by omega)
      rw [this] at hj; simp [fxsC] at hj
    rw [← fxsC_drop] at hj
    exact hr.drop_at hne j u hj
  · refine ⟨_, _, _, rfl, k1.keeps0, ⟨by omega, by omega⟩, ⟨by omega, by omega⟩, ?_⟩
    have en : i + (l.length - (i + 1)) = l.length - 1 := by omega
    rw [en] at r1 ⊢
    rw [← fxsC_app] at r1
    refine clear_own (d := l.length - (l.length - 1)) und105 elem107 zero107.run (zero107.ones (by omega) _) zero107.size r1 (by omega) (by omega) ⟨_, rfl⟩ fun w2 r2 k2 => ⟨rfl, k2.keeps0, _, rfl, _, _, rfl, r2, ?_⟩
    have k1' : Kp own w w1 := Kp.of_drew k1
    exact k1'.trans k2
theorem ext173 : Extern.find Tryd.f173 = some (Extern.SlicesOverlaps.overlaps #[105, 105] #[4]) := by rfl
theorem c173 {w : World} {g g2 o la ca lb cb : Nat} {cur cur2 : Array Value} {e2 : TypeId} {K : Value → World → Prop} (hg : w.heap[g]? = some (.cells cur 107 (0, 0))) (hg2 : w.heap[g2]? = some (.cells cur2 e2 (0, 0))) (hne : g2 ≠ g) (hcur : cur.size ≠ 0) (hK : K (.bool false) w) :
    RetsX Tryd.prog 173 #[.slice (some ⟨g2, 0, none⟩) la ca, .slice (some ⟨g, o, none⟩) lb cb] w K :=
  overlaps_own Tryd.func173 (by kernel_rfl) (by kernel_rfl) (by rfl) ext173 und105 elem107 hg hg2 hne hcur hK
theorem fxC_one (b : Fx) : ∀ u ∈ fxC b, u.oneCell' = true := fun u hu => fxsC_one [b] u (by simpa [fxsC] using hu)
theorem split_row (l : List Fx) (i : Nat) (hi : i ≤ l.length) : fxsC l = fxsC (l.take i) ++ fxsC (l.drop i) := by rw [← fxsC_app, List.take_append_drop]
theorem put_mid (A B X Y : List Value) (n : Nat) (hA : A.length = n) (hX : X.length = Y.length) : (A ++ X ++ B).take n ++ Y ++ (A ++ X ++ B).drop (n + Y.length) = A ++ Y ++ B := by
  subst hA
  rw [← hX]
  simp [List.drop_append]
theorem c140 {w : World} {own : Nat → Prop} {q : Option Addr} {c i g2 : Nat} {l : List Fx} {b : Fx} (hr : OwnRow w own 107 2 (.slice q l.length c) l.length (fxsC l)) (hi : i ≤ l.length) (hb : Big w g2 107 (fxC b)) (hg2 : ¬ own g2) (hl : l.length ≤ 1000000) :
    Rets Tryd.prog 140 #[.slice q l.length c, .int .i64 i, .slice (some ⟨g2, 0, none⟩) 1 1] w fun v w' =>
    ∃ q' c', v = .slice q' (l.length + 1) c' ∧ OwnRow w' (fun i => own i ∨ fresh w i) 107 2 (.slice q' (l.length + 1) c') (l.length + 1) (fxsC (l.take i ++ b :: l.drop i)) ∧ Kp own w w' := by
  refine ent [_, _, _] Tryd.func140 ((vcTryd140 _ _ _ _ _ _ _ w _).mpr ?_)
  unfold VCTryd140
  have hc := hr.lens.2
  have news : ∀ {w' : World}, Big w' g2 107 (fxC b) → ∀ j u, (fxC b)[j]? = some u → w'.cell? ((⟨g2, 0, none⟩ : Addr).add j) = some u := fun hb j u hj => by
    rw [ad_add, Nat.zero_add, hb.cell]; exact hj
  have hb2 : (fxC b).length = 2 := rfl
  refine ⟨⟨by omega, by omega⟩, bif_eq (fun e => absurd e (by decide)) (fun _ => bif_eq (fun e => ?_) (fun hne => wr64 (by omega) ?_))⟩
  · have ei : i = l.length := by omega
    refine append_own (m := 1) (xs := fxsC l) (news := fxC b) und105 elem107 (by omega) hr rfl (news hb) (fxC_one b) (by omega) (by omega) fun v' w' r' k' => ?_
    obtain ⟨q', c', rfl⟩ := r'.slice
    refine ⟨_, _, _, rfl, k'.keeps0, _, rfl, _, _, rfl, ?_, k'⟩
    subst ei
    rw [List.take_length, List.drop_length, fxsC_app]
    simpa [fxsC] using r'
  obtain ⟨g, rfl⟩ := row_some hr (by omega)
  refine ⟨_, _, run_cap_row und105 w, _, rfl, (Kp.refl none_ _).keeps0, bif_dec (fun hgt => ?_) (fun hle => ?_)⟩
  · -- no room: a new row
    refine ⟨⟨by omega, by omega⟩, wr64 (by omega) (wr64 (by omega) ?_)⟩
    simp only [Int.toNat_natCast, Nat.sub_zero, cut_zero]
    have ek : ((l.length : Int) + ((1 : Nat) : Int) - (i : Int)) = ((l.length + 1 - i : Nat) : Int) := by omega
    rw [ek]
    have hr1 := hr.front (i := i) (by omega)
    rw [fxsC_take] at hr1
    refine zeros_grow (k := l.length + 1 - i) und105 und3 elem107 zero107.info zero107.size (by omega) hr1 ⟨_, rfl⟩ (by omega) (by omega) (by omega) fun g1 c1 w1 r1 hg1 k1 => ?_
    have en : i + (l.length + 1 - i) = l.length + 1 := by omega
    rw [en] at r1 ⊢
    have hc1 := r1.lens.2
    have hzl := zerosL_len zero107.size (l.length + 1 - i)
    generalize zerosL (.agg #[.string ⟨#[]⟩, .slice none 0 0]) (l.length + 1 - i) = Z at *
    refine ⟨_, _, _, rfl, k1.keeps0, ⟨by omega, by omega⟩, ?_⟩
    have hm : Nat.min 1 (l.length + 1 - i) = 1 := Nat.min_eq_left (by omega)
    refine copy_own_any (o := i) (dLen := l.length + 1 - i) (sLen := 1) (cs := fxC b) und105 elem107 (by omega) r1 (by rw [hm]; rfl) (by omega) (by omega) (news (hb.kp k1 id)) (fxC_one b) fun w2 r2 k2 => ?_
    have kk2 : Kp none_ w w2 := (k1.wide.trans k2).narrow (Nat.le_refl _)
    have tl : (fxsC (l.take i)).length = i * 2 := by rw [fxsC_len, List.length_take]; omega
    have e2 : (fxsC (l.take i) ++ Z).take (i * 2) ++ fxC b ++ (fxsC (l.take i) ++ Z).drop (i * 2 + (fxC b).length) = fxsC (l.take i ++ [b]) ++ Z.drop 2 := by
      rw [fxsC_app, ← tl, List.take_left, List.drop_append, List.drop_eq_nil_of_le (by omega)]
      simp [fxsC, hb2]
    rw [e2] at r2
    rw [hm]
    refine ⟨_, rfl, k2.keeps0, wr64 (by omega) ⟨⟨by omega, by omega⟩, ⟨by omega, by omega⟩, ?_⟩⟩
    have ei : ((i : Int) + ((1 : Nat) : Int)) = ((i + 1 : Nat) : Int) := by omega
    rw [ei]
    simp only [Int.toNat_natCast]
    have hold := hr.kp kk2 fun _ _ _ _ _ => id
    have hold' := hold.kp (Kp.refl none_ w2).drew fun _ _ _ _ _ => id
    have r2' := r2.kp (Kp.refl none_ w2).drew fun _ _ _ _ _ => id
    rw [cut_at (g := g) (cap := c) (o := i) (by omega)]
    have hm2 : Nat.min (l.length - i) (l.length + 1 - (i + 1)) = l.length - i := by rw [show l.length + 1 - (i + 1) = l.length - i by omega]; exact Nat.min_self _
    refine copy_own_any (o := i + 1) (dLen := l.length + 1 - (i + 1)) (sLen := l.length - i) (cs := fxsC (l.drop i)) (a := ⟨g, i * 2, none⟩) und105 elem107 (by omega) r2' (by rw [hm2, fxsC_len, List.length_drop]) (by omega) (by omega) (fun j u hj => ?_) (fxsC_one _) fun w3 r3 k3 => ?_
    · rw [← fxsC_drop] at hj
      obtain ⟨x, ex, hx⟩ := hold'.drop_at (o := i) (by omega) j u hj
      rw [cut_at (by omega)] at ex
      cases ex; exact hx
    · rw [hm2]
      refine ⟨_, rfl, k3.keeps0, _, rfl, _, _, rfl, ?_, ?_⟩
      · have t2 : (fxsC (l.take i ++ [b])).length = (i + 1) * 2 := by rw [fxsC_len, List.length_append, List.length_take]; simp; omega
        have dl : (fxsC (l.drop i)).length = (l.length - i) * 2 := by rw [fxsC_len, List.length_drop]
        have e3 : (fxsC (l.take i ++ [b]) ++ Z.drop 2).take ((i + 1) * 2) ++ fxsC (l.drop i) ++ (fxsC (l.take i ++ [b]) ++ Z.drop 2).drop ((i + 1) * 2 + (fxsC (l.drop i)).length) = fxsC (l.take i ++ b :: l.drop i) := by
          have hd : (fxsC (l.take i ++ [b]) ++ Z.drop 2).drop ((i + 1) * 2 + (fxsC (l.drop i)).length) = [] := List.drop_eq_nil_of_le (by rw [List.length_append, List.length_drop, hzl]; omega)
          rw [hd, ← t2, List.take_left, List.append_nil, ← fxsC_app]
          simp
        rw [e3] at r3
        exact r3.mono fun i hi _ => .inr hi
      · have := ((kk2.drew).wide.trans k3).narrow (E := w.heap.size) (Nat.le_refl _)
        exact this.wide
  · -- there is room
    refine wr64 (by omega) ⟨⟨by omega, by omega⟩, wr64 (by omega) ?_⟩
    have en : ((l.length : Int) + ((1 : Nat) : Int)) = ((l.length + 1 : Nat) : Int) := by omega
    have ei : ((i : Int) + ((1 : Nat) : Int)) = ((i + 1 : Nat) : Int) := by omega
    rw [en, ei]
    simp only [Int.toNat_natCast, Nat.sub_zero, cut_zero]
    obtain ⟨ys, hys, rx⟩ := hr.extend (k := 1) (by omega)
    obtain ⟨gg, cur, egg, _, hog, hcur, hnc, hcm, hcs, htk⟩ := rx.parts (by omega)
    cases egg
    rw [cut_at (by omega)]
    refine ⟨⟨by omega, by omega⟩, c173 hcur hb (fun e => hg2 (by rw [e]; exact hog)) (by omega) ⟨_, rfl, (Kp.refl none_ _).keeps0, ?_⟩⟩
    refine bif_not (fun _ => wr64 (by omega) ?_) (fun h => by cases h)
    simp only [Int.toNat_natCast]
    refine ⟨⟨by omega, by omega⟩, ⟨by omega, by omega⟩, ?_⟩
    have rxd := rx.kp (Kp.refl none_ w).drew fun _ _ _ _ _ => id
    have hm : Nat.min (l.length + 1 - i) (l.length + 1 - (i + 1)) = l.length - i := by
      rw [show l.length + 1 - (i + 1) = l.length - i by omega]
      exact Nat.min_eq_right (by omega)
    have tl : (fxsC (l.take i)).length = i * 2 := by rw [fxsC_len, List.length_take]; omega
    have dl : (fxsC (l.drop i)).length = (l.length - i) * 2 := by rw [fxsC_len, List.length_drop]
    rw [cut_at (g := g) (cap := c) (o := i) (by omega)]
    refine copy_own_any (o := i + 1) (dLen := l.length + 1 - (i + 1)) (sLen := l.length + 1 - i) (cs := fxsC (l.drop i)) (a := ⟨g, i * 2, none⟩) und105 elem107 (by omega) rxd (by rw [hm, dl]) (by omega) (by omega) (fun j u hj => ?_) (fxsC_one _) fun w1 r1 k1 => ?_
    · have hj' : ((fxsC l ++ ys).drop (i * 2))[j]? = some u := by
        rw [List.drop_append, fxsC_drop, List.getElem?_append_left (List.getElem?_eq_some_iff.1 hj).1]
        exact hj
      obtain ⟨x, ex, hx⟩ := rxd.drop_at (o := i) (by omega) j u hj'
      rw [cut_at (by omega)] at ex
      cases ex; exact hx
    · rw [hm]
      refine ⟨_, rfl, k1.keeps0, ⟨by omega, by omega⟩, ?_⟩
      have K1 : Kp own w w1 := Kp.of_drew k1
      have hm2 : Nat.min 1 (l.length + 1 - i) = 1 := Nat.min_eq_left (by omega)
      rw [← cut_at (g := g) (cap := c) (o := i) (size := 2) (by omega)]
      refine copy_own_any (o := i) (dLen := l.length + 1 - i) (sLen := 1) (cs := fxC b) und105 elem107 (by omega) r1 (by rw [hm2]; rfl) (by omega) (by omega) (news (hb.kp K1 hg2)) (fxC_one b) fun w2 r2 k2 => ?_
      rw [hm2]
      refine ⟨_, rfl, k2.keeps0, _, rfl, _, _, rfl, ?_, K1.trans k2⟩
      have ml : (fxsC l).length = l.length * 2 := fxsC_len l
      have e2 : (fxsC l ++ ys).take ((i + 1) * 2) ++ fxsC (l.drop i) ++ (fxsC l ++ ys).drop ((i + 1) * 2 + (fxsC (l.drop i)).length) = fxsC (l.take i) ++ ((fxsC (l.drop i) ++ ys).take 2) ++ fxsC (l.drop i) := by
        have hd : (fxsC l ++ ys).drop ((i + 1) * 2 + (fxsC (l.drop i)).length) = [] := List.drop_eq_nil_of_le (by rw [List.length_append, ml, hys, dl]; omega)
        rw [hd, List.append_nil]
        congr 1
        rw [split_row l i (by omega), List.append_assoc, List.take_append, tl, List.take_of_length_le (by omega), show (i + 1) * 2 - i * 2 = 2 by omega]
      rw [e2] at r2
      have hX : ((fxsC (l.drop i) ++ ys).take 2).length = (fxC b).length := by
        rw [List.length_take, List.length_append, dl, hys, hb2]; omega
      rw [put_mid _ _ _ _ _ tl hX] at r2
      have e3 : fxsC (l.take i) ++ fxC b ++ fxsC (l.drop i) = fxsC (l.take i ++ b :: l.drop i) := by
        rw [fxsC_app, fxsC, List.append_assoc]
      rw [e3] at r2
      exact r2.mono fun i hi _ => .inl hi
end Go.Proofs.YtbpknjldphckgaaDoor

namespace Go.Proofs.YtbpknjldphckgaaDoor
open Go Go.SX Go.Proofs Go.Lib
set_option maxRecDepth 100000
set_option linter.unusedVariables false
set_option linter.unusedSimpArgs false
/-- A file's struct, laid cell by cell. -/
theorem laid2 {w : World} (s : ByteArray) (v : Value) : Kp none_ w (((w.alloc (.cells #[.string { data := #[] }, .slice none 0 0] 107)).setCell ⟨w.heap.size, 0, none⟩ (.string s)).setCell ⟨w.heap.size, 1, none⟩ v) ∧
    w.heap.size < (((w.alloc (.cells #[.string { data := #[] }, .slice none 0 0] 107)).setCell ⟨w.heap.size, 0, none⟩ (.string s)).setCell ⟨w.heap.size, 1, none⟩ v).heap.size ∧
    (((w.alloc (.cells #[.string { data := #[] }, .slice none 0 0] 107)).setCell ⟨w.heap.size, 0, none⟩ (.string s)).setCell ⟨w.heap.size, 1, none⟩ v).cell? ⟨w.heap.size, 0, none⟩ = some (.string s) := by
  have k0 : Kp none_ w (w.alloc (.cells #[.string { data := #[] }, .slice none 0 0] 107)) := (Kp.refl none_ w).alloc1 _
  have B0 : Big (w.alloc (.cells #[.string { data := #[] }, .slice none 0 0] 107)) w.heap.size 107 [.string { data := #[] }, .slice none 0 0] := Big.new _ _ 107
  have k1 := (k0.setCell (x := ⟨w.heap.size, 0, none⟩) (.string s) (.inr (Nat.le_refl _))).setCell (x := ⟨w.heap.size, 1, none⟩) v (.inr (Nat.le_refl _))
  have B1 := (B0.set 0 (.string s)).set 1 v
  exact ⟨k1, B1.lt, by rw [B1.cell]; rfl⟩
def bigL (L : List Fil) : Prop := L.length ≤ 1000000 ∧ ∀ x ∈ L, x.2.length ≤ 1000000000
theorem c139 {w : World} {q : Option Addr} {c n : Nat} {L : List Fil} (h : FRd w q n L) (hb : bigL L) : Rets Tryd.prog 139 #[.slice q n c] w fun v w' =>
    FOwn w' (fun i => w.heap.size ≤ i) v L ∧ Kp none_ w w' := by
  obtain ⟨l, rfl, rfl, hx, hd⟩ := h
  have hl : l.length ≤ 1000000 := by simpa using hb.1
  have hdl : ∀ x ∈ l, x.d.length ≤ 1000000000 := fun x hx => hb.2 x.fil (List.mem_map_of_mem hx)
  refine ent [_] Tryd.func139 ((vcTryd139 _ _ _ w _).mpr ?_)
  unfold VCTryd139
  refine make_cap2 (n := l.length) (by omega) und105 elem107 (by omega) fun w1 r1 k1 => ?_
  refine ⟨_, _, _, rfl, k1.keeps0, fun i q n c w' => ∃ (j : Nat) (l' : List Fx) (own : Nat → Prop), i = j ∧ j ≤ l.length ∧ j = n ∧ l'.length = j ∧ l'.map Fx.fil = (l.take j).map Fx.fil ∧ (∀ i, own i → w.heap.size ≤ i) ∧ OwnRow w' own 107 2 (.slice q n c) j (fxsC l') ∧ (∀ x ∈ l', DatAt w' x ∧ DatIn (fun i => w.heap.size ≤ i ∧ ¬ own i) x) ∧ Kp (fun i => w.heap.size ≤ i) w w', fun i _ _ _ _ => (l.length - i).toNat,
    ⟨0, [], fresh w, rfl, by omega, rfl, rfl, by simp, fun i h => h, r1, (fun x hx => by cases hx), k1.wide⟩, ?_⟩
  rintro i q2 n2 c2 w2 ⟨j, l', own, rfl, hj, rfl, hlen, hmap, how, r2, hd2, k2⟩
  refine bif_dec (fun h1 => ?_) (fun h1 => ?_)
  · have hjl : j < l.length := by omega
    refine ⟨⟨by omega, by omega⟩, fx_at (hx.far k2 (Nat.le_refl _)) hjl fun x _ mx => ⟨_, _, _, _, ⟨mx.c0, mx.c1, trivial⟩, fun _ => ?_⟩⟩
    obtain ⟨k3, z3, c3⟩ := laid2 (w := w2) (ba l[j].s) (.slice l[j].q l[j].d.length l[j].c)
    have k3 := k3.drew
    have z3 : w2.heap.size < (((w2.alloc (.cells #[.string { data := #[] }, .slice none 0 0] 107)).setCell ⟨w2.heap.size, 0, none⟩ (.string (ba l[j].s))).setCell ⟨w2.heap.size, 1, none⟩ (.slice l[j].q l[j].d.length l[j].c)).drew.heap.size := z3
    have c3 : (((w2.alloc (.cells #[.string { data := #[] }, .slice none 0 0] 107)).setCell ⟨w2.heap.size, 0, none⟩ (.string (ba l[j].s))).setCell ⟨w2.heap.size, 1, none⟩ (.slice l[j].q l[j].d.length l[j].c)).drew.cell? ⟨w2.heap.size, 0, none⟩ = some (.string (ba l[j].s)) := c3
    generalize (((w2.alloc (.cells #[.string { data := #[] }, .slice none 0 0] 107)).setCell ⟨w2.heap.size, 0, none⟩ (.string (ba l[j].s))).setCell ⟨w2.heap.size, 1, none⟩ (.slice l[j].q l[j].d.length l[j].c)).drew = w3 at *
    have hdj := hd _ (List.getElem_mem hjl)
    have K3 := k2.trans k3.wide
    refine (c138 ((hdj.by_.kp0 (K3.narrow (Nat.le_refl _)))) (hdl _ (List.getElem_mem hjl))).mono ?_
    rintro v w4 ⟨⟨s4, d4, q4, c4⟩, rfl, e4, hd4, hi4, k4⟩
    have e4 : d4 = l[j].d := e4
    have z24 : w2.heap.size < w4.heap.size := Nat.lt_of_lt_of_le z3 k4.size
    refine ⟨_, _, _, rfl, k4.k0 z3, k4.cell0 c3, ?_⟩
    have hr4 := ((r2.mono (own' := fun i => own i ∧ i < w2.heap.size) fun i hi hl => ⟨hi, hl⟩).kp (k3.trans k4) fun _ _ _ _ _ => id)
    refine push_fx (own := fun i => own i ∧ i < w2.heap.size) (w := w4) (l := l') (v := .slice q2 j c2) (n := j) ⟨l[j].s, l[j].d, q4, c4⟩ hr4 hlen.symm (by omega) fun q5 c5 w5 r5 k5 k5' => ⟨_, _, _, rfl, ?_, wr64 (by omega) ⟨⟨j + 1, l' ++ [⟨l[j].s, l[j].d, q4, c4⟩], fun i => (own i ∧ i < w2.heap.size) ∨ fresh w4 i, by omega, by omega, by omega, by simp; omega, ?_, ?_, ?_, ?_, ?_⟩, by first | omega | (dsimp only; omega)⟩⟩
    · refine kso k5' (fun hh => Nat.lt_irrefl _ hh.2) (by rw [alloc_size]; omega)
    · rw [List.map_append, hmap, List.take_succ_eq_append_getElem hjl, List.map_append]
      rfl
    · rintro i (hi | hi)
      · exact how i hi.1
      · exact Nat.le_trans (Nat.le_trans k2.size (Nat.le_of_lt z24)) hi
    · simp only [hlen] at r5 ⊢; exact r5
    · intro x hx
      rcases List.mem_append.1 hx with hx | hx
      · obtain ⟨da, di⟩ := hd2 x hx
        have da4 := da.kp0 (k3.trans k4)
        have di4 : DatIn (fun i => w.heap.size ≤ i ∧ ¬ ((own i ∧ i < w2.heap.size) ∨ fresh w4 i)) x := di.mono da fun i hl hi => ⟨hi.1, fun hh => hh.elim (fun h => hi.2 h.1) fun h => by
          have h : w4.heap.size ≤ i := h
          omega⟩
        refine ⟨da4.kp di4 k5 fun i hl hi hh => hi.2 (.inl hh), di4⟩
      · rw [List.mem_singleton] at hx
        subst hx
        subst e4
        have da4 : DatAt w4 ⟨l[j].s, l[j].d, q4, c4⟩ := ⟨hd4.by_, hd4.le⟩
        have di4 : DatIn (fun i => w.heap.size ≤ i ∧ ¬ ((own i ∧ i < w2.heap.size) ∨ fresh w4 i)) ⟨l[j].s, l[j].d, q4, c4⟩ := fun h0 a ha => by
          have hw3 : w3.heap.size ≤ a.block := hi4 h0 a ha
          have hlt := da4.by_.lt (by rwa [ba_size]) a ha
          have := k2.size
          refine ⟨by omega, fun hh => hh.elim (fun h => by have := h.2; omega) fun h => ?_⟩
          have h : w4.heap.size ≤ a.block := h
          omega
        exact ⟨da4.kp di4 k5 fun i hl hi hh => hi.2 (.inl hh), di4⟩
    · refine K3.trans (k4.wide.trans (k5.mono fun i _ hi => how i hi.1))
  · have ej : j = l.length := by omega
    subst ej
    rw [List.take_length] at hmap
    refine ⟨_, rfl, ⟨l', own, hmap, how, ?_, hd2⟩, k2.narrow (Nat.le_refl _)⟩
    rw [hlen]; exact r2
/-- What a name's data are. -/
theorem findD_has {L : List Fil} (ha : Asc Prod.fst L) {s : List UInt8} (hh : has Prod.fst L s = true) : ∃ hp : pos Prod.fst L s < L.length, findD L s = L[pos Prod.fst L s].2 := by
  obtain ⟨hp, he⟩ := has_get ha hh
  refine ⟨hp, ?_⟩
  have hx : (L.find? fun x => x.1 == s) = some L[pos Prod.fst L s] := by
    have hs : (L.find? fun x => x.1 == s).isSome = true := by
      rw [List.find?_isSome]
      exact ⟨_, List.getElem_mem hp, by rw [he]; simp⟩
    obtain ⟨y, hy⟩ := Option.isSome_iff_exists.1 hs
    rw [hy]
    have h1 := List.find?_some hy
    obtain ⟨i, hi, e⟩ := List.getElem_of_mem (List.mem_of_find?_eq_some hy)
    have h1 : y.1 = s := by simpa using h1
    congr 1
    rw [← e]
    have : i = pos Prod.fst L s := by
      rcases Nat.lt_trichotomy i (pos Prod.fst L s) with h | h | h
      · exact absurd (by rw [e, h1, he]) (less_ne (asc_get ha _ _ h hp))
      · exact h
      · exact absurd (by rw [e, h1, he]) (less_ne (asc_get ha _ _ h hi))
    subst this
    rfl
  unfold findD
  rw [hx]
theorem findD_not {L : List Fil} {s : List UInt8} (hh : has Prod.fst L s = false) : findD L s = [] := by
  have : (L.find? fun x => x.1 == s) = none := by
    rw [List.find?_eq_none]
    intro x hx h
    have : has Prod.fst L s = true := has_iff.2 ⟨x, hx, by simpa using h⟩
    rw [hh] at this; cases this
  unfold findD
  rw [this]
/-- Bytes that are read. -/
structure BRd (w : World) (q : Option Addr) (n c : Nat) (d : List UInt8) : Prop where
  by_ : BytesAt w q (ba d)
  len : n = d.length
  le : d.length ≤ c ∧ c ≤ maxLen
theorem BRd.kp0 {w w' : World} {q : Option Addr} {n c : Nat} {d : List UInt8} (h : BRd w q n c d) (k : Kp none_ w w') : BRd w' q n c d := ⟨h.by_.kp0 k, h.len, h.le⟩
theorem fil_get {l : List Fx} {i : Nat} (h : i < (l.map Fx.fil).length) : (l.map Fx.fil)[i] = (l[i]'(by simpa using h)).fil := by simp
theorem c88 {w : World} {q : Option Addr} {c n : Nat} {L : List Fil} (h : FRd w q n L) (ha : Asc Prod.fst L) (hb : bigL L) (s : ByteArray) : Rets Tryd.prog 88 #[.slice q n c, .string s] w fun v w' =>
    ∃ q' n' c', v = .tuple #[.slice q' n' c', .bool (has Prod.fst L (bytesL s))] ∧ BRd w' q' n' c' (findD L (bytesL s)) ∧ Kp none_ w w' := by
  refine ent [_, _] Tryd.func88 ((vcTryd88 _ _ _ _ w _).mpr ?_)
  unfold VCTryd88
  refine (c137 h ha hb.1 s).mono ?_
  rintro v w1 ⟨rfl, k1⟩
  refine ⟨_, _, rfl, k1.keeps0, bif_not (fun hh => ⟨_, rfl, none, 0, 0, by rw [hh], ?_, k1⟩) (fun hh => ?_)⟩
  · rw [findD_not hh]
    exact ⟨fun i hi => absurd hi (by rw [ba_size]; simp), rfl, by simp [maxLen]⟩
  · obtain ⟨hp, he⟩ := findD_has ha hh
    rw [he]
    obtain ⟨l, rfl, rfl, hx, hd⟩ := h
    generalize pos Prod.fst (l.map Fx.fil) (bytesL s) = p at *
    have hpl : p < l.length := by simpa using hp
    rw [fil_get hp]
    have hdp := hd _ (List.getElem_mem hpl)
    refine ⟨⟨by omega, by omega⟩, fx_at (hx.kp0 k1) hpl fun x _ mx => ⟨_, _, _, mx.c1, (c138 (hdp.by_.kp0 k1) (hb.2 _ (List.mem_map_of_mem (List.getElem_mem hpl)))).mono ?_⟩⟩
    rintro v w2 ⟨x2, rfl, e2, d2, _, k2⟩
    refine ⟨_, _, _, rfl, k2.keeps0, _, rfl, _, _, _, by rw [hh], ⟨?_, rfl, ?_⟩, k1.trans k2⟩
    · have := d2.by_
      rw [e2] at this
      exact this
    · have := d2.le
      rw [e2] at this
      exact this
theorem fxs_set : ∀ (l : List Fx) (i : Nat) (b : Fx), i < l.length → fxsC (l.set i b) = ((fxsC l).set (i * 2 + 0) (.string (ba b.s))).set (i * 2 + 1) (.slice b.q b.d.length b.c)
  | [], i, b, h => by simp at h
  | x :: r, 0, b, _ => by simp [fxsC, fxC]
  | x :: r, i + 1, b, h => by
    have ih := fxs_set r i b (by simpa using h)
    have hl : (fxC x).length = 2 := rfl
    rw [List.set_cons_succ, fxsC, fxsC, ih]
    have e : ∀ k, (i + 1) * 2 + k = (fxC x).length + (i * 2 + k) := fun k => by rw [hl]; omega
    have ap : ∀ (L : List Value) k v, (fxC x ++ L).set ((fxC x).length + k) v = fxC x ++ L.set k v := fun L k v => by
      rw [List.set_append_right _ _ (by omega)]
      congr 2
      omega
    rw [e 0, e 1, ap, ap]
theorem c90 {w : World} {q : Option Addr} {c n : Nat} {L : List Fil} (h : FRd w q n L) (ha : Asc Prod.fst L) (hb : bigL L) (s : ByteArray) : Rets Tryd.prog 90 #[.slice q n c, .string s] w fun v w' =>
    FOwn w' (fun i => w.heap.size ≤ i) v (withoutK Prod.fst L (bytesL s)) ∧ Kp none_ w w' := by
  refine ent [_, _] Tryd.func90 ((vcTryd90 _ _ _ _ w _).mpr ?_)
  unfold VCTryd90
  refine (c139 h hb).mono ?_
  rintro v w1 ⟨F1, k1⟩
  obtain ⟨q1, c1, rfl, R1⟩ := F1.rd
  refine ⟨_, _, _, rfl, k1.keeps0, (c137 R1 ha hb.1 s).mono ?_⟩
  rintro v w2 ⟨rfl, k2⟩
  have F2 := F1.kp0 k2
  rw [withoutK_eq ha]
  refine ⟨_, _, rfl, k2.keeps0, bif_b (fun hh => ?_) (fun hh => ?_)⟩
  · obtain ⟨hp, _⟩ := findD_has ha hh
    rw [if_pos hh]
    have hbl := hb.1
    obtain ⟨l, own, rfl, ho, hr, hd⟩ := F2
    generalize pos Prod.fst (l.map Fx.fil) (bytesL s) = p at *
    have hpl : p < l.length := by simpa using hp
    simp only [List.length_map] at *
    refine wr64 (by omega) ((c141 (i := p) hr hpl).mono ?_)
    rintro v w3 ⟨q3, c3, rfl, r3, k3⟩
    refine ⟨_, _, _, rfl, k3.keeps0, _, rfl, ⟨l.take p ++ l.drop (p + 1), own, by simp, ho, ?_, fun x hx => ?_⟩, ((k1.trans k2).wide.trans (k3.mono fun i _ hi => ho i hi)).narrow (Nat.le_refl _)⟩
    · have : (l.take p ++ l.drop (p + 1)).length = l.length - 1 := by simp; omega
      rw [this]; exact r3
    · have hx : x ∈ l := by
        rcases List.mem_append.1 hx with h | h
        · exact List.mem_of_mem_take h
        · exact List.mem_of_mem_drop h
      obtain ⟨da, di⟩ := hd x hx
      exact ⟨da.kp di k3 fun i _ hi => hi.2, di⟩
  · rw [if_neg (by rw [hh]; decide)]
    exact ⟨_, rfl, F2, k1.trans k2⟩
theorem c89 {w : World} {q q2 : Option Addr} {c n c2 n2 : Nat} {L : List Fil} {d : List UInt8} (h : FRd w q n L) (ha : Asc Prod.fst L) (hb : bigL L) (s : ByteArray) (hd2 : BRd w q2 n2 c2 d) (hdl : d.length ≤ 1000000000) : Rets Tryd.prog 89 #[.slice q n c, .string s, .slice q2 n2 c2] w fun v w' =>
    FOwn w' (fun i => w.heap.size ≤ i) v (withK Prod.fst L (bytesL s) (bytesL s, d)) ∧ Kp none_ w w' := by
  refine ent [_, _, _] Tryd.func89 ((vcTryd89 _ _ _ _ _ _ _ w _).mpr ?_)
  unfold VCTryd89
  obtain ⟨hby, rfl, hle⟩ := hd2
  refine (c139 h hb).mono ?_
  rintro v w1 ⟨F1, k1⟩
  obtain ⟨q1, c1, rfl, R1⟩ := F1.rd
  refine ⟨_, _, _, rfl, k1.keeps0, (c138 (hby.kp0 k1) hdl).mono ?_⟩
  rintro v w2 ⟨⟨s7, d7, q7, c7⟩, rfl, e7, hd7, hi7, k2⟩
  have e7 : d7 = d := e7
  subst e7
  refine ⟨_, _, _, rfl, k2.keeps0, fun _ => ?_⟩
  obtain ⟨k3, z3, _⟩ := laid2 (w := w2) s (.slice q7 d7.length c7)
  simp only
  generalize ((w2.alloc (.cells #[.string { data := #[] }, .slice none 0 0] 107)).setCell ⟨w2.heap.size, 0, none⟩ (.string s)).setCell ⟨w2.heap.size, 1, none⟩ (.slice q7 d7.length c7) = w3 at *
  refine (c137 (R1.kp0 (k2.trans k3)) ha hb.1 s).mono ?_
  rintro v w4 ⟨rfl, k4⟩
  have K14 := (k2.trans k3).trans k4
  have F4 := F1.cut.kp0 K14
  have D4 : DatAt w4 ⟨bytesL s, d7, q7, c7⟩ := (show DatAt w2 ⟨bytesL s, d7, q7, c7⟩ from ⟨hd7.by_, hd7.le⟩).kp0 (k3.trans k4)
  have I4 : ∀ {own : Nat → Prop}, (∀ i, own i → w.heap.size ≤ i ∧ i < w1.heap.size) → ∀ {w' : World}, w4.heap.size ≤ w'.heap.size → DatIn (fun i => w.heap.size ≤ i ∧ ¬ (own i ∨ fresh w' i)) ⟨bytesL s, d7, q7, c7⟩ := fun ho w' hw h0 a e => by
    have h1 : w1.heap.size ≤ a.block := hi7 h0 a e
    have h2 := D4.by_.lt (by rw [ba_size]; exact h0) a e
    have h3 := k1.size
    refine ⟨by omega, fun hh => hh.elim (fun h => by have := (ho _ h).2; omega) fun h => ?_⟩
    have h : w'.heap.size ≤ a.block := h
    omega
  have z24 : w2.heap.size < w4.heap.size := Nat.lt_of_lt_of_le z3 k4.size
  have z12 := k2.size
  have es : ba (bytesL s) = s := ba_of s
  have hbl := hb.1
  refine ⟨_, _, rfl, k4.k0 z3, bif_b (fun hh => ?_) (fun hh => ?_)⟩
  · obtain ⟨hp, _⟩ := findD_has ha hh
    rw [withK_has ha _ hh]
    obtain ⟨l, own, rfl, ho, hr, hd⟩ := F4
    generalize pos Prod.fst (l.map Fx.fil) (bytesL s) = p at *
    have hpl : p < l.length := by simpa using hp
    simp only [List.length_map] at *
    obtain ⟨g, rfl⟩ := row_some hr (by omega)
    have hlen := fxsC_len l
    obtain ⟨hog, u0, f0, s0⟩ := hr.setCell (k := p * 2 + 0) (by omega)
    have ap : ∀ k, Apart ⟨g, k, none⟩ w2.heap.size [0, 1] := fun k => .inl (by
      have := (ho g hog).2
      show g ≠ w2.heap.size
      omega)
    obtain ⟨r0, kk0⟩ := s0 (.string s)
    obtain ⟨_, u1, f1, s1⟩ := r0.setCell (k := p * 2 + 1) (by simp only [List.length_set]; omega)
    obtain ⟨r1, kk1⟩ := s1 (.slice q7 d7.length c7)
    refine ⟨⟨by omega, by omega⟩, ?_⟩
    rw [ptr_some]
    simp only [ad_add, Int.toNat_natCast, Nat.zero_add]
    have KK := kk0.trans kk1
    have r2 := r1
    have := fxs_set l p ⟨bytesL s, d7, q7, c7⟩ hpl
    simp only [es] at this
    rw [← this] at r2
    refine ⟨u0, f0, ap _, u1, f1, ap _, fun _ => ⟨_, rfl, ⟨l.set p ⟨bytesL s, d7, q7, c7⟩, own, by rw [List.map_set], fun i hi => (ho i hi).1, by rw [List.length_set]; exact r2, fun x hx => ?_⟩, ?_⟩⟩
    · rcases List.mem_or_eq_of_mem_set hx with hx | rfl
      · obtain ⟨da, di⟩ := hd x hx
        exact ⟨da.kp di KK fun i _ hi => hi.2, fun h0 a e => ⟨(di h0 a e).1.1, (di h0 a e).2⟩⟩
      · have di := I4 ho (w' := w4) (Nat.le_refl _)
        exact ⟨D4.kp di KK fun i _ hi hh => hi.2 (.inl hh), fun h0 a e => ⟨(di h0 a e).1, fun hh => (di h0 a e).2 (.inl hh)⟩⟩
    · exact ((k1.trans K14).wide.trans (KK.mono fun i _ hi => (ho i hi).1)).narrow (Nat.le_refl _)
  · rw [withK_not ha _ hh]
    intro _
    have hple := pos_le (k := Prod.fst) L (bytesL s)
    obtain ⟨l, own, rfl, ho, hr, hd⟩ := F4
    generalize pos Prod.fst (l.map Fx.fil) (bytesL s) = p at *
    simp only [List.length_map] at *
    have k5 : Kp none_ w4 (w4.alloc (.cells #[.string s, .slice q7 d7.length c7] 107)) := (Kp.refl none_ _).alloc1 _
    have B5 : Big (w4.alloc (.cells #[.string s, .slice q7 d7.length c7] 107)) w4.heap.size 107 (fxC ⟨bytesL s, d7, q7, c7⟩) := by
      have := Big.new w4 #[.string s, .slice q7 d7.length c7] 107
      unfold fxC
      simp only [es]
      exact this
    generalize w4.alloc (.cells #[.string s, .slice q7 d7.length c7] 107) = w5 at *
    refine (c140 (i := p) (hr.kp k5 fun _ _ _ _ _ => id) hple B5 (fun hh => by have := (ho _ hh).2; omega) hbl).mono ?_
    rintro v w6 ⟨q6, c6, rfl, r6, k6⟩
    refine ⟨_, _, _, rfl, kso k6 (fun hh => by have := (ho _ hh).2; omega) (Nat.lt_of_lt_of_le z24 k5.size), fun _ => ⟨_, rfl, ⟨l.take p ++ ⟨bytesL s, d7, q7, c7⟩ :: l.drop p, fun i => own i ∨ fresh w5 i, by simp, ?_, ?_, fun x hx => ?_⟩, ?_⟩⟩
    · rintro i (hi | hi)
      · exact (ho i hi).1
      · have hi : w5.heap.size ≤ i := hi
        have := k5.size
        have := k1.size
        omega
    · have : (l.take p ++ ⟨bytesL s, d7, q7, c7⟩ :: l.drop p).length = l.length + 1 := by simp; omega
      rw [this]; exact r6
    · have hc : x = ⟨bytesL s, d7, q7, c7⟩ ∨ x ∈ l := by
        rcases List.mem_append.1 hx with h | h
        · exact .inr (List.mem_of_mem_take h)
        · rcases List.mem_cons.1 h with h | h
          · exact .inl h
          · exact .inr (List.mem_of_mem_drop h)
      rcases hc with rfl | hx
      · have di := I4 ho (w' := w5) k5.size
        exact ⟨(D4.kp0 k5).kp di k6 fun i _ hi hh => hi.2 (.inl hh), di⟩
      · obtain ⟨da, di⟩ := hd x hx
        have di' : DatIn (fun i => w.heap.size ≤ i ∧ ¬ (own i ∨ fresh w5 i)) x := di.mono da fun i hl hi => ⟨hi.1.1, fun hh => hh.elim hi.2 fun h => by
          have h : w5.heap.size ≤ i := h
          have := k5.size
          omega⟩
        exact ⟨(da.kp0 k5).kp di' k6 fun i _ hi hh => hi.2 (.inl hh), di'⟩
    · exact (((k1.trans K14).trans k5).wide.trans (k6.mono fun i _ hi => (ho i hi).1)).narrow (Nat.le_refl _)
end Go.Proofs.YtbpknjldphckgaaDoor

namespace Go.Proofs.YtbpknjldphckgaaDoor
open Go Go.SX Go.Proofs Go.Lib
set_option maxRecDepth 100000
set_option linter.unusedVariables false
set_option linter.unusedSimpArgs false
theorem toList_ba (l : List UInt8) : (ba l).toList = l := by rw [ByteArray.toList_eq, ba_list]
theorem isGo136 : isGo Tryd.prog 136 = true := by kernel_rfl
theorem c136 {w : World} (x y : Fx) (hx : DatAt w x) (hy : DatAt w y) : Rets Tryd.prog 136 #[fxV x, fxV y] w fun v w' => v = .bool (decide (x.fil = y.fil)) ∧ Kp none_ w w' := by
  refine ent [_, _] Tryd.func136 ((vcTryd136 _ _ _ _ _ _ _ _ w _).mpr ?_)
  unfold VCTryd136
  have k1 : Kp none_ w (w.alloc (.cells #[.string (ba x.s), .slice x.q x.d.length x.c] 107)) := (Kp.refl none_ w).alloc1 _
  have k2 : Kp none_ w ((w.alloc (.cells #[.string (ba x.s), .slice x.q x.d.length x.c] 107)).alloc (.cells #[.string (ba y.s), .slice y.q y.d.length y.c] 107)) := k1.alloc1 _
  simp only [toList_ba]
  refine bif_b (fun h => ⟨ba x.d, ba_size _, hx.by_.kp0 k2, ba y.d, ba_size _, hy.by_.kp0 k2, fun _ => ⟨_, rfl, ?_, k2⟩⟩) (fun h _ => ⟨_, rfl, ?_, k2⟩)
  · rw [toList_ba, toList_ba]
    have h : x.s = y.s := by simpa using h
    congr 1
    rw [Bool.eq_iff_iff]
    simp [Fx.fil, h]
  · have h : x.s ≠ y.s := by simpa using h
    congr 1
    rw [eq_comm, decide_eq_false_iff_not]
    exact fun e => h (congrArg Prod.fst e)
theorem map_eq {l m : List Fx} (hl : l.length = m.length) (h : ∀ k (hk : k < l.length), (l[k]).fil = (m[k]'(by omega)).fil) : l.map Fx.fil = m.map Fx.fil := by
  apply List.ext_getElem (by simpa using hl)
  intro i h1 h2
  simp only [List.getElem_map]
  exact h i (by simpa using h1)
theorem map_ne {l m : List Fx} {k : Nat} (h1 : k < l.length) (h2 : k < m.length) (h : (l[k]).fil ≠ (m[k]).fil) : l.map Fx.fil ≠ m.map Fx.fil := fun e => h (by
  have : (l.map Fx.fil)[k]'(by simpa using h1) = (m.map Fx.fil)[k]'(by simpa using h2) := by simp only [e]
  simpa using this)
theorem c135 {w : World} {q r : Option Addr} {c d n m : Nat} {L M : List Fil} (hq : FRd w q n L) (hr : FRd w r m M) (hL : L.length ≤ 1000000) : Rets Tryd.prog 135 #[.slice q n c, .slice r m d, .func (.func 136) #[] #[]] w fun v w' => v = .bool (decide (L = M)) ∧ Kp none_ w w' := by
  obtain ⟨l, rfl, rfl, hx, hdx⟩ := hq
  obtain ⟨k, rfl, rfl, hy, hdy⟩ := hr
  have hl : l.length ≤ 1000000 := by simpa using hL
  refine ent [_, _, _] Tryd.func135 ((vcTryd135 _ _ _ _ _ _ _ w _).mpr ?_)
  unfold VCTryd135
  refine bif_ne (fun hne => ⟨_, rfl, ?_, Kp.refl _ _⟩) (fun he => ?_)
  · rw [decide_eq_false]
    exact fun e => hne (by have := congrArg List.length e; simp at this; omega)
  have he : l.length = k.length := by omega
  refine ⟨fun i w' => ∃ j : Nat, i = j ∧ j ≤ l.length ∧ Kp none_ w w' ∧ ∀ x (hk : x < l.length), x < j → (l[x]).fil = (k[x]'(by omega)).fil, fun i _ => (l.length - i).toNat, ⟨0, rfl, by omega, Kp.refl _ _, fun x hk h => by omega⟩, ?_⟩
  rintro i w3 ⟨j, rfl, hj, k3, ha⟩
  refine bif_dec (fun h1 => ?_) (fun h1 => ⟨_, rfl, ?_, k3⟩)
  · have hjl : j < l.length := by omega
    have hjk : j < k.length := by omega
    refine ⟨⟨by omega, by omega⟩, fx_at (hx.kp0 k3) hjl fun x _ mx => ⟨_, _, _, _, ⟨mx.c0, mx.c1, trivial⟩, ⟨by omega, by omega⟩, ?_⟩⟩
    obtain ⟨k4, z4, _⟩ := laid2 (w := w3) (ba l[j].s) (.slice l[j].q l[j].d.length l[j].c)
    simp only
    generalize ((w3.alloc (.cells #[.string { data := #[] }, .slice none 0 0] 107)).setCell ⟨w3.heap.size, 0, none⟩ (.string (ba l[j].s))).setCell ⟨w3.heap.size, 1, none⟩ (.slice l[j].q l[j].d.length l[j].c) = w4 at *
    refine fx_at ((hy.kp0 k3).kp0 k4) hjk fun y _ my => ⟨_, _, _, _, ⟨my.c0, my.c1, trivial⟩, ?_⟩
    obtain ⟨k5, z5, _⟩ := laid2 (w := w4) (ba k[j].s) (.slice k[j].q k[j].d.length k[j].c)
    generalize ((w4.alloc (.cells #[.string { data := #[] }, .slice none 0 0] 107)).setCell ⟨w4.heap.size, 0, none⟩ (.string (ba k[j].s))).setCell ⟨w4.heap.size, 1, none⟩ (.slice k[j].q k[j].d.length k[j].c) = w5 at *
    intro _
    have K5 := (k3.trans k4).trans k5
    refine ⟨isGo136, (c136 l[j] k[j] ((hdx _ (List.getElem_mem hjl)).kp0 K5) ((hdy _ (List.getElem_mem hjk)).kp0 K5)).mono ?_⟩
    rintro v w6 ⟨rfl, k6⟩
    have z46 : w4.heap.size < w5.heap.size := z5
    refine ⟨_, rfl, k6.keeps fun b hb => ⟨?_, id⟩, bif_not (fun hh _ => ⟨_, rfl, ?_, K5.trans k6⟩) (fun hh => wr64 (by omega) ⟨⟨j + 1, by omega, by omega, K5.trans k6, fun x hk hxj => ?_⟩, by first | omega | (dsimp only; omega)⟩)⟩
    · simp only [List.mem_cons, List.not_mem_nil, or_false] at hb
      rcases hb with rfl | rfl <;> omega
    · rw [decide_eq_false (map_ne hjl hjk (of_decide_eq_false hh))]
    · by_cases e : x = j
      · subst e; exact of_decide_eq_true hh
      · exact ha x hk (by omega)
  · rw [decide_eq_true (map_eq he fun x hk => ha x hk (by omega))]
theorem c84 {w : World} {q r : Option Addr} {c d n m : Nat} {L M : List Fil} (hq : FRd w q n L) (hr : FRd w r m M) (hL : L.length ≤ 1000000) : Rets Tryd.prog 84 #[.slice q n c, .slice r m d] w fun v w' => v = .bool (decide (L = M)) ∧ Kp none_ w w' := by
  refine ent [_, _] Tryd.func84 ((vcTryd84 _ _ _ _ _ _ w _).mpr ?_)
  unfold VCTryd84
  refine (c135 hq hr hL).mono ?_
  rintro v w1 ⟨rfl, k1⟩
  exact ⟨_, rfl, k1.keeps0, _, rfl, rfl, k1⟩
theorem c85 {w : World} {q r : Option Addr} {c d n m : Nat} {L M : List Fil} (hq : FRd w q n L) (hr : FRd w r m M) (hL : L.length ≤ 1000000) : Rets Tryd.prog 85 #[.slice q n c, .slice r m d] w fun v w' => v = .bool (decide (L = M)) ∧ Kp none_ w w' := by
  obtain ⟨l, rfl, rfl, hx, hdx⟩ := hq
  obtain ⟨k, rfl, rfl, hy, hdy⟩ := hr
  have hl : l.length ≤ 1000000 := by simpa using hL
  refine ent [_, _] Tryd.func85 ((vcTryd85 _ _ _ _ _ _ w _).mpr ?_)
  unfold VCTryd85
  refine bif_ne (fun hne => ⟨_, rfl, ?_, Kp.refl _ _⟩) (fun he => ?_)
  · rw [decide_eq_false]
    exact fun e => hne (by have := congrArg List.length e; simp at this; omega)
  have he : l.length = k.length := by omega
  refine ⟨fun i w' => ∃ j : Nat, i = j ∧ j ≤ l.length ∧ Kp none_ w w' ∧ ∀ x (hk : x < l.length), x < j → (l[x]).fil = (k[x]'(by omega)).fil, fun i _ => (l.length - i).toNat, ⟨0, rfl, by omega, Kp.refl _ _, fun x hk h => by omega⟩, ?_⟩
  rintro i w3 ⟨j, rfl, hj, k3, ha⟩
  have kd := k3.drew
  refine bif_dec (fun h1 => ?_) (fun h1 => ⟨_, rfl, ?_, k3⟩)
  · have hjl : j < l.length := by omega
    have hjk : j < k.length := by omega
    refine ⟨⟨by omega, by omega⟩, fx_at (hx.kp0 kd) hjl fun x _ mx => ⟨_, mx.c0, ⟨by omega, by omega⟩, fx_at (hy.kp0 kd) hjk fun y _ my => ⟨_, my.c0, ?_⟩⟩⟩
    rw [toList_ba, toList_ba]
    refine bif_not (fun hh => ⟨_, rfl, ?_, kd⟩) (fun hs => ⟨⟨by omega, by omega⟩, fx_at (hx.kp0 kd) hjl fun x _ mx => ⟨_, _, _, mx.c1, ba l[j].d, ba_size _, (hdx _ (List.getElem_mem hjl)).by_.kp0 kd, ⟨by omega, by omega⟩, fx_at (hy.kp0 kd) hjk fun y _ my => ⟨_, _, _, my.c1, ba k[j].d, ba_size _, (hdy _ (List.getElem_mem hjk)).by_.kp0 kd, ?_⟩⟩⟩)
    · have hh : l[j].s ≠ k[j].s := by simpa using hh
      rw [decide_eq_false (map_ne hjl hjk fun e => hh (congrArg Prod.fst e))]
    · rw [toList_ba, toList_ba]
      have hs : l[j].s = k[j].s := by simpa using hs
      refine bif_not (fun hh => ⟨_, rfl, ?_, kd⟩) (fun hh => wr64 (by omega) ⟨⟨j + 1, by omega, by omega, kd, fun x hk hxj => ?_⟩, by first | omega | (dsimp only; omega)⟩)
      · have hh : l[j].d ≠ k[j].d := by simpa using hh
        rw [decide_eq_false (map_ne hjl hjk fun e => hh (congrArg Prod.snd e))]
      · have hh : l[j].d = k[j].d := by simpa using hh
        by_cases e : x = j
        · subst e
          show (l[x].s, l[x].d) = (k[x].s, k[x].d)
          rw [hs, hh]
        · exact ha x hk (by omega)
  · rw [decide_eq_true (map_eq he fun x hk => ha x hk (by omega))]
theorem findK_map {l : List Fx} (s : List UInt8) : findK Prod.fst (l.map Fx.fil) s = findK kF l s := by
  induction l with
  | nil => rfl
  | cons x r ih => simp only [List.map_cons, findK, ih]
theorem c87 {w : World} {q : Option Addr} {c n : Nat} {L : List Fil} (h : FRd w q n L) (hL : L.length ≤ 1000000) (s : ByteArray) : Rets Tryd.prog 87 #[.slice q n c, .string s] w fun v w' => v = .int .i64 (idxO (findK Prod.fst L (bytesL s))) ∧ w' = w := by
  obtain ⟨l, rfl, rfl, hx, hdx⟩ := h
  have hl : l.length ≤ 1000000 := by simpa using hL
  rw [findK_map]
  refine ent [_, _] Tryd.func87 ((vcTryd87 _ _ _ _ w _).mpr ?_)
  unfold VCTryd87
  refine ⟨fun i w' => ∃ j : Nat, i = j ∧ j ≤ l.length ∧ w' = w ∧ ∀ k (hk : k < l.length), k < j → (l[k]).s ≠ bytesL s, fun i _ => (l.length - i).toNat, ⟨0, rfl, by omega, rfl, fun k hk h => by omega⟩, ?_⟩
  rintro i w' ⟨j, rfl, hj, rfl, ha⟩
  refine bif_dec (fun h1 => ⟨⟨by omega, by omega⟩, fx_at hx (by omega) fun x _ m => ⟨_, m.c0, ?_⟩⟩) (fun h1 => ⟨_, rfl, ?_, rfl⟩)
  · have hjl : j < l.length := by omega
    rw [beq_ba]
    refine bif_b (fun hh => ⟨_, rfl, ?_, rfl⟩) (fun hh => wr64 (by omega) ⟨⟨j + 1, by omega, by omega, rfl, fun k hk hkj => ?_⟩, by first | omega | (dsimp only; omega)⟩)
    · rw [findK_at (k := kF) hjl (by simpa using hh) ha]; rfl
    · by_cases e : k = j
      · subst e; simpa using hh
      · exact ha k hk (by omega)
  · rw [findK_not (k := kF) fun k hk => ha k hk (by omega)]; rfl
/-- Whether files are more, or greater, than are gone through. -/
theorem c82 {w : World} {q : Option Addr} {c : Nat} {l : List Fx} (h : FxsAt w q l) (hc : l.length ≤ 9223372036854775807) : Rets Tryd.prog 82 #[.slice q l.length c] w fun v w' => ∃ t, v = .bool t ∧ w' = w ∧ (t = false → l.length ≤ 250 ∧ ∀ x ∈ l, x.s.length ≤ 300 ∧ x.d.length ≤ 70000) := by
  refine ent [_] Tryd.func82 ((vcTryd82 _ _ _ w _).mpr ?_)
  unfold VCTryd82
  refine ⟨fun i w' => ∃ j : Nat, i = j ∧ j ≤ 300 ∧ j ≤ l.length ∧ w' = w ∧ ∀ k (hk : k < l.length), k < j → (l[k]).s.length ≤ 300 ∧ (l[k]).d.length ≤ 70000, fun i _ => (l.length - i).toNat, ⟨0, rfl, by omega, by omega, rfl, fun k hk h => by omega⟩, ?_⟩
  rintro i w' ⟨j, rfl, hj, hjl, rfl, ha⟩
  have fin : (300 ≤ j ∨ l.length ≤ j) → ∃ v, Ending.returned (Value.bool (decide ((l.length : Int) > 250))) = Ending.returned v ∧ ∃ t, v = .bool t ∧ w' = w' ∧ (t = false → l.length ≤ 250 ∧ ∀ x ∈ l, x.s.length ≤ 300 ∧ x.d.length ≤ 70000) := fun hh => ⟨_, rfl, _, rfl, rfl, fun ht => by
    have hn := of_decide_eq_false ht
    refine ⟨by omega, fun b hb => ?_⟩
    obtain ⟨k, hk, e⟩ := List.getElem_of_mem hb
    rw [← e]
    exact ha k hk (by omega)⟩
  refine bif_dec (fun h1 => bif_dec (fun h2 => ⟨⟨by omega, by omega⟩, fx_at h (by omega) fun x _ m => ⟨_, m.c0, bif_dec (fun h3 => ⟨_, rfl, _, rfl, rfl, fun h => by cases h⟩) (fun h3 => ⟨⟨by omega, by omega⟩, fx_at h (by omega) fun x _ m => ⟨_, _, _, m.c1, bif_dec (fun h4 => ⟨_, rfl, _, rfl, rfl, fun h => by cases h⟩) (fun h4 => wr64 (by omega) ⟨⟨j + 1, by omega, by omega, by omega, rfl, fun k hk hkj => ?_⟩, by first | omega | (dsimp only; omega)⟩)⟩⟩)⟩⟩) (fun h2 => fin (by omega))) (fun h1 => fin (by omega))
  rw [ba_size] at h3
  by_cases e : k = j
  · subst e; exact ⟨by omega, by omega⟩
  · exact ha k hk (by omega)
end Go.Proofs.YtbpknjldphckgaaDoor

namespace Go.Proofs.YtbpknjldphckgaaDoor
open Go Go.SX Go.Proofs Go.Lib
set_option maxRecDepth 100000
set_option linter.unusedVariables false
set_option linter.unusedSimpArgs false
/-- Files that are read, in the blocks of Q. -/
def FIn (w : World) (Q : Nat → Prop) (q : Option Addr) (n : Nat) (L : List Fil) : Prop := ∃ l : List Fx, l.map Fx.fil = L ∧ n = l.length ∧ FxsAt w q l ∧ (0 < l.length → ∀ a, q = some a → Q a.block) ∧ ∀ x ∈ l, DatAt w x ∧ DatIn Q x
theorem FIn.rd {w : World} {Q : Nat → Prop} {q : Option Addr} {n : Nat} {L : List Fil} (h : FIn w Q q n L) : FRd w q n L := by
  obtain ⟨l, h1, h2, h3, h4, h5⟩ := h
  exact ⟨l, h1, h2, h3, fun x hx => (h5 x hx).1⟩
theorem FRd.all {w : World} {q : Option Addr} {n : Nat} {L : List Fil} (h : FRd w q n L) : FIn w (fun i => i < w.heap.size) q n L := by
  obtain ⟨l, h1, h2, h3, h4⟩ := h
  refine ⟨l, h1, h2, h3, fun h0 a e => ?_, fun x hx => ⟨h4 x hx, fun h0 a e => (h4 x hx).by_.lt (by rwa [ba_size]) a e⟩⟩
  obtain ⟨x, e', m⟩ := h3 0 h0
  rw [e] at e'
  cases e'
  have := cell_lt m.c0
  simpa [add_block] using this
theorem FIn.kp {S Q Q' : Nat → Prop} {w w' : World} {q : Option Addr} {n : Nat} {L : List Fil} (h : FIn w Q q n L) (k : Kp S w w') (hs : ∀ i, i < w.heap.size → Q i → ¬ S i ∧ Q' i) : FIn w' Q' q n L := by
  obtain ⟨l, h1, h2, h3, h4, h5⟩ := h
  have hlt : ∀ a, q = some a → 0 < l.length → a.block < w.heap.size := fun a e h0 => by
    obtain ⟨x, e', m⟩ := h3 0 h0
    rw [e] at e'
    cases e'
    have := cell_lt m.c0
    simpa [add_block] using this
  exact ⟨l, h1, h2, h3.kp k fun x e h0 => (hs _ (hlt x e h0) (h4 h0 x e)).1, fun h0 a e => (hs _ (hlt a e h0) (h4 h0 a e)).2, fun x hx => ⟨(h5 x hx).1.kp (h5 x hx).2 k fun i hl hi => (hs i hl hi).1, (h5 x hx).2.mono (h5 x hx).1 fun i hl hi => (hs i hl hi).2⟩⟩
theorem FIn.kp0 {Q : Nat → Prop} {w w' : World} {q : Option Addr} {n : Nat} {L : List Fil} (h : FIn w Q q n L) (k : Kp none_ w w') : FIn w' Q q n L := h.kp k fun i _ hi => ⟨id, hi⟩
theorem FIn.mono {Q Q' : Nat → Prop} {w : World} {q : Option Addr} {n : Nat} {L : List Fil} (h : FIn w Q q n L) (hs : ∀ i, i < w.heap.size → Q i → Q' i) : FIn w Q' q n L := h.kp (Kp.refl none_ w) fun i hl hi => ⟨id, hs i hl hi⟩
theorem FIn.nil (w : World) (Q : Nat → Prop) (q : Option Addr) : FIn w Q q 0 [] := ⟨[], rfl, rfl, fun i hi => by simp at hi, fun h => by simp at h, fun x hx => by cases hx⟩
theorem putGo_map (b : Fx) : ∀ (l o : List Fx) (t : Bool), (l.map Fx.fil).foldl (putStep Prod.fst b.s b.fil) (o.map Fx.fil, t) = ((l.foldl (putStep kF b.s b) (o, t)).1.map Fx.fil, (l.foldl (putStep kF b.s b) (o, t)).2)
  | [], o, t => rfl
  | x :: r, o, t => by
    rw [List.map_cons, List.foldl_cons, List.foldl_cons]
    have e : putStep Prod.fst b.s b.fil (o.map Fx.fil, t) x.fil = ((putStep kF b.s b (o, t) x).1.map Fx.fil, (putStep kF b.s b (o, t) x).2) := by
      unfold putStep
      simp only [Fx.fil]
      split <;> split <;> simp
    rw [e, putGo_map b r]
theorem withK_map (l : List Fx) (b : Fx) : (withK kF l b.s b).map Fx.fil = withK Prod.fst (l.map Fx.fil) b.s (b.s, b.d) := by
  unfold withK putGo
  have := putGo_map b l [] false
  simp only [List.map_nil] at this
  rw [show (b.s, b.d) = b.fil from rfl, this]
  simp only
  split <;> simp
theorem withK_mem {l : List Fx} (ha : Asc kF l) {s : List UInt8} {b x : Fx} (hx : x ∈ withK kF l s b) : x = b ∨ x ∈ l := by
  rw [withK_eq ha] at hx
  rcases List.mem_append.1 hx with h | h
  · exact .inr (List.mem_of_mem_take h)
  · rcases List.mem_cons.1 h with h | h
    · exact .inl h
    · exact .inr (List.mem_of_mem_drop h)
theorem c92 {w : World} {Q : Nat → Prop} {q : Option Addr} {c n : Nat} {L : List Fil} (h : FIn w Q q n L) (hL : L.length ≤ 1000000) (s : ByteArray) : Rets Tryd.prog 92 #[.slice q n c, .string s] w fun v w' =>
    ∃ q' n' c', v = .slice q' n' c' ∧ FIn w' (fun i => Q i ∨ w.heap.size ≤ i) q' n' (withoutK Prod.fst L (bytesL s)) ∧ Kp none_ w w' := by
  obtain ⟨l, rfl, rfl, h, _, hd⟩ := h
  have hl : l.length ≤ 1000000 := by simpa using hL
  refine ent [_, _] Tryd.func92 ((vcTryd92 _ _ _ _ w _).mpr ?_)
  unfold VCTryd92
  refine ⟨fun i q n c w' => ∃ j : Nat, i = j ∧ j ≤ l.length ∧ n = (withoutK kF (l.take j) (bytesL s)).length ∧ OwnRow w' (fun i => w.heap.size ≤ i) 107 2 (.slice q n c) n (fxsC (withoutK kF (l.take j) (bytesL s))) ∧ Kp (fun i => w.heap.size ≤ i) w w', fun i _ _ _ _ => (l.length - i).toNat, ⟨0, rfl, by omega, by simp [withoutK], by simpa [withoutK, fxsC] using OwnRow.nil _ _ _ _, Kp.refl _ _⟩, ?_⟩
  rintro i q3 n4 c5 w6 ⟨j, rfl, hj, rfl, r6, k6⟩
  have hle : (withoutK kF (l.take j) (bytesL s)).length ≤ (l.take j).length := List.length_filter_le _ _
  have hlt : (l.take j).length ≤ j := by rw [List.length_take]; omega
  refine bif_dec (fun h1 => ⟨⟨by omega, by omega⟩, fx_at (h.far k6 (Nat.le_refl _)) (by omega) fun x _ m => ⟨_, m.c0, ?_⟩⟩) (fun h1 => ⟨_, rfl, q3, _, c5, rfl, ?_, k6.narrow (Nat.le_refl _)⟩)
  · have hjl : j < l.length := by omega
    have hst := withoutK_step (k := kF) (s := bytesL s) hjl
    rw [beq_ba]
    refine bif_not (fun hh => ?_) (fun hh => wr64 (by omega) ⟨⟨j + 1, by omega, by omega, ?_, ?_, k6⟩, by first | omega | (dsimp only; omega)⟩)
    · rw [if_neg (by simpa using hh)] at hst
      refine ⟨⟨by omega, by omega⟩, fx_at (h.far k6 (Nat.le_refl _)) hjl fun y _ my => ⟨_, _, _, _, ⟨my.c0, my.c1, trivial⟩, ?_⟩⟩
      refine push_fx l[j] r6 rfl (by omega) fun q' c' w' r' k1 k2 => ⟨_, _, _, rfl, k2.keeps0, wr64 (by omega) ⟨⟨j + 1, by omega, by omega, by rw [hst]; simp, ?_, k6.trans k1⟩, by first | omega | (dsimp only; omega)⟩⟩
      rw [hst]
      have hz := k6.size
      exact r'.mono fun i hi _ => hi.elim id fun hf => Nat.le_trans hz hf
    · rw [if_pos (by simpa using hh)] at hst
      rw [hst]
    · rw [if_pos (by simpa using hh)] at hst
      rw [hst]; exact r6
  · rw [List.take_of_length_le (by omega)] at *
    have k7 := k6.narrow (Nat.le_refl _)
    refine ⟨withoutK kF l (bytesL s), ?_, rfl, fxs_of r6, fun h0 a e => ?_, fun x hx => ?_⟩
    · unfold withoutK
      rw [List.filter_map]
      rfl
    · obtain ⟨g, _, e', _, hg, _⟩ := r6.parts h0
      rw [e] at e'
      cases e'
      exact .inr hg
    · have hx : x ∈ l := (List.mem_filter.1 hx).1
      exact ⟨(hd x hx).1.kp0 k7, fun h0 a e => .inl ((hd x hx).2 h0 a e)⟩
theorem c91 {w0 : World} {Q : Nat → Prop} {q : Option Addr} {c n : Nat} {L : List Fil} (h : FIn w0 Q q n L) (hL : L.length ≤ 1000000) (ha : Asc Prod.fst L) (s d : List UInt8) (hdl : d.length ≤ 1000000000) : Rets Tryd.prog 91 #[.slice q n c, .string (ba s), .string (ba d)] w0 fun v w' =>
    ∃ q' n' c', v = .slice q' n' c' ∧ FIn w' (fun i => Q i ∨ w0.heap.size ≤ i) q' n' (withK Prod.fst L s (s, d)) ∧ Kp none_ w0 w' := by
  obtain ⟨l, rfl, rfl, h0, _, hd⟩ := h
  have hl : l.length ≤ 1000000 := by simpa using hL
  refine ent [_, _, _] Tryd.func91 ((vcTryd91 _ _ _ _ _ w0 _).mpr ?_)
  unfold VCTryd91
  refine buf_conv (E := w0.heap.size) Tryd.underlying9 und27 Tryd.underlying5 (ba d) (Nat.le_refl _) (by rw [ba_size]; simp only [maxLen]; omega) fun v w b1 k1 => ?_
  obtain ⟨qd, cd, rfl, hd1, hd2⟩ := b1.slice
  have h := h0.kp0 k1
  have ed : (ba d).data.toList = d := ba_list d
  simp only [ed] at *
  obtain ⟨b, hb⟩ : ∃ b : Fx, b = ⟨s, d, qd, cd⟩ := ⟨_, rfl⟩
  have hbd : DatAt w b := by subst hb; exact ⟨b1.bytes, hd1, hd2⟩
  have hbi : DatIn (fun i => w0.heap.size ≤ i) b := fun h0 a e => by
    subst hb
    rcases b1 with ⟨_, h0'⟩ | ⟨g, cap, cur, fr, e', hg, _⟩
    · have h0 : 0 < d.length := h0
      rw [h0'] at h0; simp at h0
    · have e : qd = some a := e
      rw [e] at e'
      cases e'
      exact hg
  have e1 : Value.string (ba s) = .string (ba b.s) := by rw [hb]
  have e2 : Value.slice qd d.length cd = .slice b.q b.d.length b.c := by rw [hb]
  have e3 : ba s = ba b.s := by rw [hb]
  have e4 : s = b.s := by rw [hb]
  have e5 : d = b.d := by rw [hb]
  obtain ⟨k0, z0, _⟩ := laid2 (w := w) (ba s) (.slice qd d.length cd)
  refine ⟨_, _, _, rfl, k1.keeps0, ?_⟩
  have e6 : qd = b.q := by rw [hb]
  have e7 : cd = b.c := by rw [hb]
  clear hb
  subst e4 e5 e6 e7
  refine ⟨fun i q n c t w' => ∃ (j : Nat) (o : List Fx), i = j ∧ j ≤ l.length ∧ putGo kF b.s b (l.take j) = (o, t) ∧ n = o.length ∧ o.length ≤ 2 * j ∧ OwnRow w' (fun i => w.heap.size < i) 107 2 (.slice q n c) o.length (fxsC o) ∧ Kp (fun i => w.heap.size ≤ i) w w' ∧ w.heap.size < w'.heap.size, fun i _ _ _ _ _ => (l.length - i).toNat,
    ⟨0, [], rfl, by omega, by simp [putGo], rfl, by simp, OwnRow.nil _ _ _ _, k0.wide, z0⟩, ?_⟩
  rintro i q3 n4 c5 t6 w7 ⟨j, o, rfl, hj, hgo, rfl, ho, r7, k7, z7⟩ _
  have nb : ¬ (w.heap.size < w.heap.size) := Nat.lt_irrefl _
  have wide : ∀ {w8 w9 : World}, Kp (fun i => w.heap.size < i) w8 w9 → Kp (fun i => w.heap.size ≤ i) w8 w9 := fun k => k.mono fun i _ h => Nat.le_of_lt h
  refine bif_dec (fun h1 => ?_) (fun h1 => ?_)
  · have hjl : j < l.length := by omega
    have hst := putGo_step (k := kF) (s := b.s) (m := b) hjl
    rw [hgo] at hst
    -- the element that is there is put, or not
    have tail : ∀ (o' : List Fx) (t' : Bool) (q' : Option Addr) (c' : Nat) (w' : World), o'.length ≤ 2 * j + 1 → OwnRow w' (fun i => w.heap.size < i) 107 2 (.slice q' o'.length c') o'.length (fxsC o') → Kp (fun i => w.heap.size ≤ i) w w' → w.heap.size < w'.heap.size →
        putGo kF b.s b (l.take (j + 1)) = (if b.s = l[j].s then o' else o' ++ [l[j]], t') →
        ∀ {K : Option Addr → Nat → Nat → Bool → World → Prop}, (∀ (q : Option Addr) (n c : Nat) (w2 : World), (∃ (j2 : Nat) (o : List Fx), ((j + 1 : Nat) : Int) = j2 ∧ j2 ≤ l.length ∧ putGo kF b.s b (l.take j2) = (o, t') ∧ n = o.length ∧ o.length ≤ 2 * j2 ∧ OwnRow w2 (fun i => w.heap.size < i) 107 2 (.slice q n c) o.length (fxsC o) ∧ Kp (fun i => w.heap.size ≤ i) w w2 ∧ w.heap.size < w2.heap.size) → K q n c t' w2) →
        (b.s = l[j].s → K q' o'.length c' t' w') ∧ (b.s ≠ l[j].s → ∀ {K2 : Value → World → Prop}, (∀ q2 c2 w2, Keeps (w'.alloc (.cells #[.string (ba l[j].s), .slice l[j].q l[j].d.length l[j].c] 107)) w2 [w.heap.size] → K q2 (o'.length + 1) c2 t' w2 → K2 (.slice q2 (o'.length + 1) c2) w2) →
          Runs Tryd.prog (Builtin.append_ #[105, 105] 105 #[.slice q' o'.length c', .slice (some ⟨w'.heap.size, 0, none⟩) 1 1]) (w'.alloc (.cells #[.string (ba l[j].s), .slice l[j].q l[j].d.length l[j].c] 107)) K2) := by
      intro o' t' q' c' w' hlen r' k' z' hgo' K hK
      refine ⟨fun e => hK _ _ _ _ ⟨j + 1, o', rfl, by omega, by rw [hgo', if_pos e], rfl, by omega, r', k', z'⟩, fun e K2 hK2 => push_fx l[j] r' rfl (by omega) fun q2 c2 w2 r2 k2 k3 => hK2 q2 c2 w2 (kso k3 nb (by rw [alloc_size]; omega)) (hK _ _ _ _ ⟨j + 1, o' ++ [l[j]], rfl, by omega, by rw [hgo', if_neg e], by simp, by simp; omega, ?_, k'.trans (wide k2), Nat.lt_of_lt_of_le z' k2.size⟩)⟩
      have := r2.mono (own' := fun i => w.heap.size < i) fun i hi _ => hi.elim id fun hf => Nat.lt_of_lt_of_le z' hf
      simpa using this
    cases t6 with
    | false =>
      refine ⟨⟨by omega, by omega⟩, fx_at (h.far k7 (Nat.le_refl _)) hjl fun x _ mx => ⟨_, mx.c0, ?_⟩⟩
      rw [toList_ba, toList_ba]
      refine bif_b (fun hle => ?_) (fun hgt => ?_)
      · have e1 : putGo kF b.s b (l.take (j + 1)) = (if b.s = l[j].s then o ++ [b] else (o ++ [b]) ++ [l[j]], true) := by
          rw [hst]; unfold putStep; simp only [hle, and_self, if_true, Bool.false_or]
        refine push_fx b r7 rfl (by omega) fun q8 c8 w8 r8 k8 k8' => ⟨_, _, _, rfl, kso k8' nb (by rw [alloc_size]; omega), ⟨by omega, by omega⟩, ?_⟩
        have K8 : Kp (fun i => w.heap.size ≤ i) w w8 := k7.trans (wide k8)
        have z8 : w.heap.size < w8.heap.size := Nat.lt_of_lt_of_le z7 k8.size
        have R8 : OwnRow w8 (fun i => w.heap.size < i) 107 2 (.slice q8 (o ++ [b]).length c8) (o ++ [b]).length (fxsC (o ++ [b])) := by
          have := r8.mono (own' := fun i => w.heap.size < i) fun i hi _ => hi.elim id fun hf => Nat.lt_of_lt_of_le z7 hf
          simpa using this
        have el : (o ++ [b]).length = o.length + 1 := by simp
        refine fx_at (h.far K8 (Nat.le_refl _)) hjl fun y _ my => ⟨_, my.c0, ?_⟩
        rw [toList_ba]
        refine bif_not (fun hne => ⟨⟨by omega, by omega⟩, fx_at (h.far K8 (Nat.le_refl _)) hjl fun z _ mz => ⟨_, _, _, _, ⟨mz.c0, mz.c1, trivial⟩, ?_⟩⟩) (fun heq => wr64 (by omega) ⟨rfl, ?_, by first | omega | (dsimp only; omega)⟩)
        · rw [← el]
          refine (tail (o ++ [b]) true q8 c8 w8 (by simp; omega) R8 K8 z8 e1 (K := fun q n c t w2 => ∃ (j2 : Nat) (o : List Fx), ((j + 1 : Nat) : Int) = j2 ∧ j2 ≤ l.length ∧ putGo kF b.s b (l.take j2) = (o, t) ∧ n = o.length ∧ o.length ≤ 2 * j2 ∧ OwnRow w2 (fun i => w.heap.size < i) 107 2 (.slice q n c) o.length (fxsC o) ∧ Kp (fun i => w.heap.size ≤ i) w w2 ∧ w.heap.size < w2.heap.size) fun _ _ _ _ hh => hh).2 (fun e => absurd e.symm (by simpa using hne)) fun q2 c2 w2 kp hk => ⟨_, _, _, rfl, kp, wr64 (by omega) ⟨rfl, hk, by first | omega | (dsimp only; omega)⟩⟩
        · rw [← el]
          exact (tail (o ++ [b]) true q8 c8 w8 (by simp; omega) R8 K8 z8 e1 (K := fun q n c t w2 => ∃ (j2 : Nat) (o : List Fx), ((j + 1 : Nat) : Int) = j2 ∧ j2 ≤ l.length ∧ putGo kF b.s b (l.take j2) = (o, t) ∧ n = o.length ∧ o.length ≤ 2 * j2 ∧ OwnRow w2 (fun i => w.heap.size < i) 107 2 (.slice q n c) o.length (fxsC o) ∧ Kp (fun i => w.heap.size ≤ i) w w2 ∧ w.heap.size < w2.heap.size) fun _ _ _ _ hh => hh).1 (Eq.symm (by simpa using heq))
      · have hne0 : b.s ≠ l[j].s := fun e => by
          rw [e] at hgt; simp at hgt
        have e1 : putGo kF b.s b (l.take (j + 1)) = (if b.s = l[j].s then o else o ++ [l[j]], false) := by
          rw [hst]; unfold putStep; simp only [hgt, Bool.false_or]; simp
        have K8 : Kp (fun i => w.heap.size ≤ i) w w7 := k7
        have R8 : OwnRow w7 (fun i => w.heap.size < i) 107 2 (.slice q3 o.length c5) o.length (fxsC o) := r7
        refine ⟨⟨by omega, by omega⟩, fx_at (h.far K8 (Nat.le_refl _)) hjl fun y _ my => ⟨_, my.c0, ?_⟩⟩
        rw [toList_ba]
        refine bif_not (fun hne => ⟨⟨by omega, by omega⟩, fx_at (h.far K8 (Nat.le_refl _)) hjl fun z _ mz => ⟨_, _, _, _, ⟨mz.c0, mz.c1, trivial⟩, ?_⟩⟩) (fun heq => absurd (Eq.symm (by simpa using heq)) hne0)
        refine (tail o false q3 c5 w7 (by omega) R8 K8 z7 e1 (K := fun q n c t w2 => ∃ (j2 : Nat) (o : List Fx), ((j + 1 : Nat) : Int) = j2 ∧ j2 ≤ l.length ∧ putGo kF b.s b (l.take j2) = (o, t) ∧ n = o.length ∧ o.length ≤ 2 * j2 ∧ OwnRow w2 (fun i => w.heap.size < i) 107 2 (.slice q n c) o.length (fxsC o) ∧ Kp (fun i => w.heap.size ≤ i) w w2 ∧ w.heap.size < w2.heap.size) fun _ _ _ _ hh => hh).2 hne0 fun q2 c2 w2 kp hk => ⟨_, _, _, rfl, kp, wr64 (by omega) ⟨rfl, hk, by first | omega | (dsimp only; omega)⟩⟩
    | true =>
      have e1 : putGo kF b.s b (l.take (j + 1)) = (if b.s = l[j].s then o else o ++ [l[j]], true) := by
        rw [hst]; unfold putStep; simp
      have K8 : Kp (fun i => w.heap.size ≤ i) w w7 := k7
      have R8 : OwnRow w7 (fun i => w.heap.size < i) 107 2 (.slice q3 o.length c5) o.length (fxsC o) := r7
      refine ⟨⟨by omega, by omega⟩, fx_at (h.far K8 (Nat.le_refl _)) hjl fun y _ my => ⟨_, my.c0, ?_⟩⟩
      rw [toList_ba, toList_ba]
      refine bif_not (fun hne => ⟨⟨by omega, by omega⟩, fx_at (h.far K8 (Nat.le_refl _)) hjl fun z _ mz => ⟨_, _, _, _, ⟨mz.c0, mz.c1, trivial⟩, ?_⟩⟩) (fun heq => wr64 (by omega) ⟨rfl, ?_, by first | omega | (dsimp only; omega)⟩)
      · refine (tail o true q3 c5 w7 (by omega) R8 K8 z7 e1 (K := fun q n c t w2 => ∃ (j2 : Nat) (o : List Fx), ((j + 1 : Nat) : Int) = j2 ∧ j2 ≤ l.length ∧ putGo kF b.s b (l.take j2) = (o, t) ∧ n = o.length ∧ o.length ≤ 2 * j2 ∧ OwnRow w2 (fun i => w.heap.size < i) 107 2 (.slice q n c) o.length (fxsC o) ∧ Kp (fun i => w.heap.size ≤ i) w w2 ∧ w.heap.size < w2.heap.size) fun _ _ _ _ hh => hh).2 (fun e => absurd e.symm (by simpa using hne)) fun q2 c2 w2 kp hk => ⟨_, _, _, rfl, kp, wr64 (by omega) ⟨rfl, hk, by first | omega | (dsimp only; omega)⟩⟩
      · exact (tail o true q3 c5 w7 (by omega) R8 K8 z7 e1 (K := fun q n c t w2 => ∃ (j2 : Nat) (o : List Fx), ((j + 1 : Nat) : Int) = j2 ∧ j2 ≤ l.length ∧ putGo kF b.s b (l.take j2) = (o, t) ∧ n = o.length ∧ o.length ≤ 2 * j2 ∧ OwnRow w2 (fun i => w.heap.size < i) 107 2 (.slice q n c) o.length (fxsC o) ∧ Kp (fun i => w.heap.size ≤ i) w w2 ∧ w.heap.size < w2.heap.size) fun _ _ _ _ hh => hh).1 (Eq.symm (by simpa using heq))
  · rw [List.take_of_length_le (by omega)] at hgo
    have hw : withK kF l b.s b = if t6 = true then o else o ++ [b] := by
      unfold withK; rw [hgo]
    have endW : ∀ {q8 : Option Addr} {c8 : Nat} {w8 : World}, OwnRow w8 (fun i => w.heap.size < i) 107 2 (.slice q8 (withK kF l b.s b).length c8) (withK kF l b.s b).length (fxsC (withK kF l b.s b)) → Kp (fun i => w.heap.size ≤ i) w w8 → FIn w8 (fun i => Q i ∨ w0.heap.size ≤ i) q8 (withK kF l b.s b).length (withK Prod.fst (l.map Fx.fil) b.s (b.s, b.d)) ∧ Kp none_ w0 w8 := fun {q8 c8 w8} r8 k8 => by
      have k8 := k8.narrow (Nat.le_refl _)
      refine ⟨⟨withK kF l b.s b, withK_map l b, rfl, fxs_of r8, fun h0 a e => ?_, fun x hx => ?_⟩, k1.trans k8⟩
      · obtain ⟨g, _, e', _, hg, _⟩ := r8.parts h0
        rw [e] at e'
        cases e'
        have hg : w.heap.size < g := hg
        have := k1.size
        exact .inr (by show w0.heap.size ≤ g; omega)
      · rcases withK_mem (asc_map.1 ha) hx with rfl | hx
        · exact ⟨hbd.kp0 k8, fun h0 a e => .inr (hbi h0 a e)⟩
        · obtain ⟨da, di⟩ := hd x hx
          exact ⟨(da.kp0 k1).kp0 k8, fun h0 a e => .inl (di h0 a e)⟩
    cases t6 with
    | false =>
      rw [if_neg (by decide)] at hw
      refine push_fx b r7 rfl (by omega) fun q8 c8 w8 r8 k8 k8' => ⟨_, _, _, rfl, kso k8' nb (by rw [alloc_size]; omega), fun _ => ⟨_, rfl, q8, _, c8, by rw [show o.length + 1 = (withK kF l b.s b).length by rw [hw]; simp], endW (c8 := c8) ?_ (k7.trans (wide k8))⟩⟩
      rw [hw]
      have := r8.mono (own' := fun i => w.heap.size < i) fun i hi _ => hi.elim id fun hf => Nat.lt_of_lt_of_le z7 hf
      simpa using this
    | true =>
      rw [if_pos rfl] at hw
      refine fun _ => ⟨_, rfl, q3, _, c5, by rw [show o.length = (withK kF l b.s b).length by rw [hw]], endW (c8 := c5) ?_ k7⟩
      rw [hw]
      exact r7
end Go.Proofs.YtbpknjldphckgaaDoor

namespace Go.Proofs.YtbpknjldphckgaaDoor
open Go Go.SX Go.Proofs
set_option maxRecDepth 100000
set_option linter.unusedVariables false
def VCTryd132 (p0 : ByteArray) (p1 : ByteArray) (w : World) (R : Ending → World → Prop) : Prop :=
Rets Tryd.prog (29 : Nat) #[Value.string p1] w fun (v0 : Value) (w1 : World) =>
 ∃ (t2 : Bool),
  v0 = Value.bool t2 ∧
   Keeps w w1 [] ∧
    bif !t2 then R (Ending.returned (Value.bool false)) w1
    else
     bif !p0.toList == ({ data := #[] } : ByteArray).toList then
      Rets Tryd.prog (29 : Nat) #[Value.string p0] w1 fun (v3 : Value) (w4 : World) =>
       ∃ (t5 : Bool),
        v3 = Value.bool t5 ∧
         Keeps w1 w4 [] ∧
          bif !t5 then R (Ending.returned (Value.bool false)) w4
          else
           bif p0.toList == ({ data := #[] } : ByteArray).toList then R (Ending.returned (Value.bool true)) w4
           else
            bif decide ((↑p1.size : Int) > (↑p0.size : Int)) then
             ((0 : Int) ≤ (↑p0.size : Int) ∧ (↑p0.size : Int) ≤ (↑p1.size : Int)) ∧
              bif (p1.extract (0 : Nat) (↑p0.size : Int).toNat).toList == p0.toList then
               ((0 : Int) ≤ (↑p0.size : Int) ∧ (↑p0.size : Int) < (↑p1.size : Int)) ∧ R (Ending.returned (Value.bool (byteAt p1 (↑p0.size : Int) == (47 : Int)))) w4
              else R (Ending.returned (Value.bool false)) w4
            else R (Ending.returned (Value.bool false)) w4
     else
      bif p0.toList == ({ data := #[] } : ByteArray).toList then R (Ending.returned (Value.bool true)) w1
      else
       bif decide ((↑p1.size : Int) > (↑p0.size : Int)) then
        ((0 : Int) ≤ (↑p0.size : Int) ∧ (↑p0.size : Int) ≤ (↑p1.size : Int)) ∧
         bif (p1.extract (0 : Nat) (↑p0.size : Int).toNat).toList == p0.toList then
          ((0 : Int) ≤ (↑p0.size : Int) ∧ (↑p0.size : Int) < (↑p1.size : Int)) ∧ R (Ending.returned (Value.bool (byteAt p1 (↑p0.size : Int) == (47 : Int)))) w1
         else R (Ending.returned (Value.bool false)) w1
       else R (Ending.returned (Value.bool false)) w1
theorem vcTryd132 (p0 : ByteArray) (p1 : ByteArray) (w : World) (R : Ending → World → Prop) : SX.vcFn Tryd.prog [] Tryd.f132 [.v (.string p0), .v (.string p1)] [] w R = VCTryd132 p0 p1 w R := by kernel_rfl
def VCTryd134 (p0 : ByteArray) (p1 : ByteArray) (w : World) (R : Ending → World → Prop) : Prop :=
Rets Tryd.prog (170 : Nat) #[Value.string p0, Value.string p1] w fun (v0 : Value) (w1 : World) =>
 ∃ (s2 : ByteArray), ∃ (t3 : Bool), v0 = Value.tuple #[Value.string s2, Value.bool t3] ∧ Keeps w w1 [] ∧ R (Ending.returned (Value.bool t3)) w1
theorem vcTryd134 (p0 : ByteArray) (p1 : ByteArray) (w : World) (R : Ending → World → Prop) : SX.vcFn Tryd.prog [] Tryd.f134 [.v (.string p0), .v (.string p1)] [] w R = VCTryd134 p0 p1 w R := by kernel_rfl
def VCTryd170 (p0 : ByteArray) (p1 : ByteArray) (w : World) (R : Ending → World → Prop) : Prop :=
Rets Tryd.prog (104 : Nat) #[Value.string p1] w fun (v0 : Value) (w1 : World) =>
 ∃ (t2 : Bool),
  v0 = Value.bool t2 ∧
   Keeps w w1 [] ∧
    bif !t2 then R (Ending.returned (Value.tuple #[Value.string { data := #[] }, Value.bool false])) w1
    else
     bif p0.toList == ({ data := #[] } : ByteArray).toList then R (Ending.returned (Value.tuple #[Value.string p1, Value.bool true])) w1
     else
      Rets Tryd.prog (104 : Nat) #[Value.string p0] w1 fun (v3 : Value) (w4 : World) =>
       ∃ (t5 : Bool),
        v3 = Value.bool t5 ∧
         Keeps w1 w4 [] ∧
          bif !t5 then R (Ending.returned (Value.tuple #[Value.string { data := #[] }, Value.bool false])) w4
          else
           p0.size + (1 : Nat) ≤ (9223372036854775807 : Nat) ∧
            Rets Tryd.prog (188 : Nat) #[Value.string p1, Value.string (p0 ++ { data := #[(47 : UInt8)] })] w4 fun (v6 : Value) (w7 : World) =>
             ∃ (s8 : ByteArray), ∃ (t9 : Bool), v6 = Value.tuple #[Value.string s8, Value.bool t9] ∧ Keeps w4 w7 [] ∧ R (Ending.returned (Value.tuple #[Value.string s8, Value.bool t9])) w7
theorem vcTryd170 (p0 : ByteArray) (p1 : ByteArray) (w : World) (R : Ending → World → Prop) : SX.vcFn Tryd.prog [] Tryd.f170 [.v (.string p0), .v (.string p1)] [] w R = VCTryd170 p0 p1 w R := by kernel_rfl
def VCTryd188 (p0 : ByteArray) (p1 : ByteArray) (w : World) (R : Ending → World → Prop) : Prop :=
Rets Tryd.prog (200 : Nat) #[Value.string p0, Value.string p1] w fun (v0 : Value) (w1 : World) =>
 ∃ (s2 : ByteArray), ∃ (t3 : Bool), v0 = Value.tuple #[Value.string s2, Value.bool t3] ∧ Keeps w w1 [] ∧ R (Ending.returned (Value.tuple #[Value.string s2, Value.bool t3])) w1
theorem vcTryd188 (p0 : ByteArray) (p1 : ByteArray) (w : World) (R : Ending → World → Prop) : SX.vcFn Tryd.prog [] Tryd.f188 [.v (.string p0), .v (.string p1)] [] w R = VCTryd188 p0 p1 w R := by kernel_rfl
def VCTryd200 (p0 : ByteArray) (p1 : ByteArray) (w : World) (R : Ending → World → Prop) : Prop :=
Rets Tryd.prog (211 : Nat) #[Value.string p0, Value.string p1] w fun (v0 : Value) (w1 : World) =>
 ∃ (t2 : Bool),
  v0 = Value.bool t2 ∧
   Keeps w w1 [] ∧
    bif !t2 then R (Ending.returned (Value.tuple #[Value.string p0, Value.bool false])) w1
    else ((0 : Int) ≤ (↑p1.size : Int) ∧ (↑p1.size : Int) ≤ (↑p0.size : Int)) ∧ R (Ending.returned (Value.tuple #[Value.string (p0.extract (↑p1.size : Int).toNat p0.size), Value.bool true])) w1
theorem vcTryd200 (p0 : ByteArray) (p1 : ByteArray) (w : World) (R : Ending → World → Prop) : SX.vcFn Tryd.prog [] Tryd.f200 [.v (.string p0), .v (.string p1)] [] w R = VCTryd200 p0 p1 w R := by kernel_rfl
def VCTryd211 (p0 : ByteArray) (p1 : ByteArray) (w : World) (R : Ending → World → Prop) : Prop :=
bif decide ((↑p0.size : Int) ≥ (↑p1.size : Int)) then
 ((0 : Int) ≤ (↑p1.size : Int) ∧ (↑p1.size : Int) ≤ (↑p0.size : Int)) ∧ R (Ending.returned (Value.bool ((p0.extract (0 : Nat) (↑p1.size : Int).toNat).toList == p1.toList))) w
else R (Ending.returned (Value.bool false)) w
theorem vcTryd211 (p0 : ByteArray) (p1 : ByteArray) (w : World) (R : Ending → World → Prop) : SX.vcFn Tryd.prog [] Tryd.f211 [.v (.string p0), .v (.string p1)] [] w R = VCTryd211 p0 p1 w R := by kernel_rfl
def VCTryd202 (p0 : Option Addr) (p1 : Bool) (w : World) (R : Ending → World → Prop) : Prop :=
SX.Ptr p0 fun (a0 : Addr) =>
 ∃ (q1 : Option Addr),
  ∃ (n2 : Nat),
   ∃ (n3 : Nat),
    (w.alloc (Obj.cells #[Value.bool p1] (4 : Nat))).cell? (a0.add (0 : Nat)) = some (Value.slice q1 n2 n3) ∧
     (Known (w.alloc (Obj.cells #[Value.bool p1] (4 : Nat))) [(w.heap.size, [((0 : Nat), Value.bool p1)])] →
      Rets Tryd.prog (212 : Nat) #[Value.slice q1 n2 n3, Value.func (Fn.func (213 : Nat)) #[] #[Value.pointer (some { block := w.heap.size, off := (0 : Nat) })]] (w.alloc (Obj.cells #[Value.bool p1] (4 : Nat)))
       fun (v4 : Value) (w5 : World) =>
       ∃ (t6 : Bool),
        v4 = Value.bool t6 ∧
         Keeps (w.alloc (Obj.cells #[Value.bool p1] (4 : Nat))) w5 [] ∧
          ∃ (t7 : Bool),
           w5.cell? { block := w.heap.size, off := (0 : Nat) } = some (Value.bool t7) ∧
            w5.frozen? { block := w.heap.size, off := (0 : Nat) } = false ∧ (Known w5 [(w.heap.size, [((0 : Nat), Value.bool t7)])] → R (Ending.returned (Value.bool t6)) w5))
theorem vcTryd202 (p0 : Option Addr) (p1 : Bool) (w : World) (R : Ending → World → Prop) : SX.vcFn Tryd.prog [] Tryd.f202 [.v (.pointer p0), .v (.bool p1)] [] w R = VCTryd202 p0 p1 w R := by kernel_rfl
def VCTryd212 (p0 : Option Addr) (n0 c0 : Nat) (p1 : Value) (w : World) (R : Ending → World → Prop) : Prop :=
Rets Tryd.prog (219 : Nat) #[Value.slice p0 n0 c0, p1] w fun (v0 : Value) (w1 : World) => ∃ (i2 : Int), v0 = Value.int IntKind.i64 i2 ∧ Keeps w w1 [] ∧ R (Ending.returned (Value.bool (decide (i2 ≥ (0 : Int))))) w1
theorem vcTryd212 (p0 : Option Addr) (n0 c0 : Nat) (p1 : Value) (w : World) (R : Ending → World → Prop) : SX.vcFn Tryd.prog [] Tryd.f212 [.v (.slice p0 n0 c0), .v p1] [] w R = VCTryd212 p0 n0 c0 p1 w R := by kernel_rfl
def VCTryd219 (p0 : Option Addr) (n0 c0 : Nat) (p1 : Value) (w : World) (R : Ending → World → Prop) : Prop :=
∃ (I0 : Int → World → Prop),
 ∃ (I1 : Int → World → Nat),
  I0 (0 : Int) w ∧
   ∀ (i2 : Int) (w3 : World),
    I0 i2 w3 →
     bif decide (i2 < (↑n0 : Int)) then
      ((0 : Int) ≤ i2 ∧ i2 < (↑n0 : Int)) ∧
       SX.Ptr p0 fun (a4 : Addr) =>
        ∃ (t5 : Bool),
         ∃ (q6 : Option Addr),
          ∃ (n7 : Nat),
           ∃ (n8 : Nat),
            (w3.cell? ((a4.add (i2.toNat * (2 : Nat))).add (0 : Nat)) = some (Value.bool t5) ∧ w3.cell? ((a4.add (i2.toNat * (2 : Nat))).add (1 : Nat)) = some (Value.slice q6 n7 n8) ∧ True) ∧
             CallsVal Tryd.prog p1 #[Value.agg #[Value.bool t5, Value.slice q6 n7 n8]] w3 fun (v9 : Value) (w10 : World) =>
              ∃ (t11 : Bool),
               v9 = Value.bool t11 ∧
                Keeps w3 w10 [] ∧ bif t11 then R (Ending.returned (Value.int IntKind.i64 i2)) w10 else Wr IntKind.i64 (i2 + (1 : Int)) fun (i12 : Int) => I0 i12 w10 ∧ I1 i12 w10 < I1 i2 w3
     else R (Ending.returned (Value.int IntKind.i64 (-1 : Int))) w3
theorem vcTryd219 (p0 : Option Addr) (n0 c0 : Nat) (p1 : Value) (w : World) (R : Ending → World → Prop) : SX.vcFn Tryd.prog [(2, ⟨[(8, .int .i64)], [0, 1, 7], []⟩)] Tryd.f219 [.v (.slice p0 n0 c0), .v p1] [] w R = VCTryd219 p0 n0 c0 p1 w R := by kernel_rfl
def VCTryd190 (p0 : Option Addr) (p1 : Int) (p2 : Int) (p3 : Int) (w : World) (R : Ending → World → Prop) : Prop :=
bif p1 == p2 then
 Rets Tryd.prog (202 : Nat) #[Value.pointer p0, Value.bool true] w fun (v0 : Value) (w1 : World) =>
  ∃ (t2 : Bool),
   v0 = Value.bool t2 ∧
    Keeps w w1 [] ∧
     bif t2 then R (Ending.returned (Value.bool true)) w1
     else
      bif p1 == p3 then
       Rets Tryd.prog (202 : Nat) #[Value.pointer p0, Value.bool false] w1 fun (v3 : Value) (w4 : World) => ∃ (t5 : Bool), v3 = Value.bool t5 ∧ Keeps w1 w4 [] ∧ R (Ending.returned (Value.bool t5)) w4
      else R (Ending.returned (Value.bool false)) w1
else
 bif p1 == p3 then Rets Tryd.prog (202 : Nat) #[Value.pointer p0, Value.bool false] w fun (v6 : Value) (w7 : World) => ∃ (t8 : Bool), v6 = Value.bool t8 ∧ Keeps w w7 [] ∧ R (Ending.returned (Value.bool t8)) w7
 else R (Ending.returned (Value.bool false)) w
theorem vcTryd190 (p0 : Option Addr) (p1 : Int) (p2 : Int) (p3 : Int) (w : World) (R : Ending → World → Prop) : SX.vcFn Tryd.prog [] Tryd.f190 [.v (.pointer p0), .v (.int .i64 p1), .v (.int .i64 p2), .v (.int .i64 p3)] [] w R = VCTryd190 p0 p1 p2 p3 w R := by kernel_rfl
def VCTryd206 (p0 : Option Addr) (w : World) (R : Ending → World → Prop) : Prop :=
SX.Ptr p0 fun (a0 : Addr) =>
 ∃ (t1 : Bool),
  w.cell? (a0.add (3 : Nat)) = some (Value.bool t1) ∧
   bif t1 then R (Ending.returned (Value.int IntKind.i64 (8 : Int))) w
   else
    SX.Ptr p0 fun (a2 : Addr) =>
     ∃ (t3 : Bool), w.cell? (a2.add (2 : Nat)) = some (Value.bool t3) ∧ bif t3 then R (Ending.returned (Value.int IntKind.i64 (11 : Int))) w else R (Ending.returned (Value.int IntKind.i64 (0 : Int))) w
theorem vcTryd206 (p0 : Option Addr) (w : World) (R : Ending → World → Prop) : SX.vcFn Tryd.prog [] Tryd.f206 [.v (.pointer p0)] [] w R = VCTryd206 p0 w R := by kernel_rfl
def VCTryd205 (p0 : Option Addr) (p1 : ByteArray) (w : World) (R : Ending → World → Prop) : Prop :=
SX.Ptr p0 fun (a0 : Addr) =>
 ∃ (q1 : Option Addr),
  ∃ (n2 : Nat),
   ∃ (n3 : Nat),
    w.cell? (a0.add (4 : Nat)) = some (Value.slice q1 n2 n3) ∧
     Rets Tryd.prog (137 : Nat) #[Value.slice q1 n2 n3, Value.string p1] w fun (v4 : Value) (w5 : World) =>
      ∃ (i6 : Int),
       ∃ (t7 : Bool),
        v4 = Value.tuple #[Value.int IntKind.i64 i6, Value.bool t7] ∧
         Keeps w w5 [] ∧ bif !t7 then R (Ending.returned (Value.int IntKind.i64 (7 : Int))) w5 else R (Ending.returned (Value.int IntKind.i64 (0 : Int))) w5
theorem vcTryd205 (p0 : Option Addr) (p1 : ByteArray) (w : World) (R : Ending → World → Prop) : SX.vcFn Tryd.prog [] Tryd.f205 [.v (.pointer p0), .v (.string p1)] [] w R = VCTryd205 p0 p1 w R := by kernel_rfl
def VCTryd204 (p0 : Option Addr) (p1 : Int) (w : World) (R : Ending → World → Prop) : Prop :=
SX.Ptr p0 fun (a0 : Addr) =>
 ∃ (t1 : Bool),
  w.cell? (a0.add (3 : Nat)) = some (Value.bool t1) ∧
   bif !t1 then R (Ending.returned (Value.int IntKind.i64 (15 : Int))) w
   else
    SX.Ptr p0 fun (a2 : Addr) =>
     ∃ (q3 : Option Addr),
      ∃ (n4 : Nat),
       ∃ (n5 : Nat),
        w.cell? (a2.add (6 : Nat)) = some (Value.slice q3 n4 n5) ∧
         Wr IntKind.i64 ((65536 : Int) - (↑n4 : Int)) fun (i6 : Int) =>
          bif decide (p1 > i6) then R (Ending.returned (Value.int IntKind.i64 (5 : Int))) w else R (Ending.returned (Value.int IntKind.i64 (0 : Int))) w
theorem vcTryd204 (p0 : Option Addr) (p1 : Int) (w : World) (R : Ending → World → Prop) : SX.vcFn Tryd.prog [] Tryd.f204 [.v (.pointer p0), .v (.int .i64 p1)] [] w R = VCTryd204 p0 p1 w R := by kernel_rfl
def VCTryd203 (p0 : Option Addr) (p1 : ByteArray) (p2 : Int) (w : World) (R : Ending → World → Prop) : Prop :=
Rets Tryd.prog (206 : Nat) #[Value.pointer p0] w fun (v0 : Value) (w1 : World) =>
 ∃ (i2 : Int),
  v0 = Value.int IntKind.i64 i2 ∧
   Keeps w w1 [] ∧
    bif i2 != (0 : Int) then R (Ending.returned (Value.int IntKind.i64 i2)) w1
    else
     SX.Ptr p0 fun (a3 : Addr) =>
      ∃ (q4 : Option Addr),
       ∃ (n5 : Nat),
        ∃ (n6 : Nat),
         w1.cell? (a3.add (4 : Nat)) = some (Value.slice q4 n5 n6) ∧
          Rets Tryd.prog (137 : Nat) #[Value.slice q4 n5 n6, Value.string p1] w1 fun (v7 : Value) (w8 : World) =>
           ∃ (i9 : Int),
            ∃ (t10 : Bool),
             v7 = Value.tuple #[Value.int IntKind.i64 i9, Value.bool t10] ∧
              Keeps w1 w8 [] ∧
               Rets Tryd.prog (104 : Nat) #[Value.string p1] w8 fun (v11 : Value) (w12 : World) =>
                ∃ (t13 : Bool),
                 v11 = Value.bool t13 ∧
                  Keeps w8 w12 [] ∧
                   bif !t13 then R (Ending.returned (Value.int IntKind.i64 (6 : Int))) w12
                   else
                    bif decide (p2 > (65536 : Int)) then R (Ending.returned (Value.int IntKind.i64 (5 : Int))) w12
                    else
                     bif !t10 then
                      SX.Ptr p0 fun (a14 : Addr) =>
                       ∃ (q15 : Option Addr),
                        ∃ (n16 : Nat),
                         ∃ (n17 : Nat),
                          w12.cell? (a14.add (4 : Nat)) = some (Value.slice q15 n16 n17) ∧
                           bif decide ((↑n16 : Int) ≥ (200 : Int)) then R (Ending.returned (Value.int IntKind.i64 (14 : Int))) w12 else R (Ending.returned (Value.int IntKind.i64 (0 : Int))) w12
                     else R (Ending.returned (Value.int IntKind.i64 (0 : Int))) w12
theorem vcTryd203 (p0 : Option Addr) (p1 : ByteArray) (p2 : Int) (w : World) (R : Ending → World → Prop) : SX.vcFn Tryd.prog [] Tryd.f203 [.v (.pointer p0), .v (.string p1), .v (.int .i64 p2)] [] w R = VCTryd203 p0 p1 p2 w R := by kernel_rfl
def VCTryd192 (p0 : Option Addr) (n0 c0 : Nat) (p1 : Option Addr) (n1 c1 : Nat) (w : World) (R : Ending → World → Prop) : Prop :=
bif (↑n0 : Int) != (↑n1 : Int) then R (Ending.returned (Value.bool false)) w
else
 ∃ (I0 : Int → World → Prop),
  ∃ (I1 : Int → World → Nat),
   I0 (0 : Int) w ∧
    ∀ (i2 : Int) (w3 : World),
     I0 i2 w3 →
      bif decide (i2 < (↑n0 : Int)) then
       ((0 : Int) ≤ i2 ∧ i2 < (↑n0 : Int)) ∧
        SX.Ptr p0 fun (a4 : Addr) =>
         ∃ (s5 : ByteArray),
          w3.drew.cell? (a4.add (i2.toNat * (1 : Nat))) = some (Value.string s5) ∧
           ((0 : Int) ≤ i2 ∧ i2 < (↑n1 : Int)) ∧
            SX.Ptr p1 fun (a6 : Addr) =>
             ∃ (s7 : ByteArray),
              w3.drew.cell? (a6.add (i2.toNat * (1 : Nat))) = some (Value.string s7) ∧
               bif !s5.toList == s7.toList then R (Ending.returned (Value.bool false)) w3.drew else Wr IntKind.i64 (i2 + (1 : Int)) fun (i8 : Int) => I0 i8 w3.drew ∧ I1 i8 w3.drew < I1 i2 w3
      else R (Ending.returned (Value.bool true)) w3
theorem vcTryd192 (p0 : Option Addr) (n0 c0 : Nat) (p1 : Option Addr) (n1 c1 : Nat) (w : World) (R : Ending → World → Prop) : SX.vcFn Tryd.prog [(4, ⟨[(13, .int .i64)], [1, 0, 12], []⟩)] Tryd.f192 [.v (.slice p0 n0 c0), .v (.slice p1 n1 c1)] [] w R = VCTryd192 p0 n0 c0 p1 n1 c1 w R := by kernel_rfl
def VCTryd193 (p0 : Option Addr) (n0 c0 : Nat) (p1 : ByteArray) (w : World) (R : Ending → World → Prop) : Prop :=
∃ (I0 : Int → Option Addr → Nat → Nat → World → Prop),
 ∃ (I1 : Int → Option Addr → Nat → Nat → World → Nat),
  I0 (0 : Int) none (0 : Nat) (0 : Nat) w ∧
   ∀ (i2 : Int) (q3 : Option Addr) (n4 n5 : Nat) (w6 : World),
    I0 i2 q3 n4 n5 w6 →
     bif decide (i2 < (↑n0 : Int)) then
      ((0 : Int) ≤ i2 ∧ i2 < (↑n0 : Int)) ∧
       SX.Ptr p0 fun (a7 : Addr) =>
        ∃ (s8 : ByteArray),
         ∃ (q9 : Option Addr),
          ∃ (n10 : Nat),
           ∃ (n11 : Nat),
            (w6.cell? ((a7.add (i2.toNat * (2 : Nat))).add (0 : Nat)) = some (Value.string s8) ∧ w6.cell? ((a7.add (i2.toNat * (2 : Nat))).add (1 : Nat)) = some (Value.slice q9 n10 n11) ∧ True) ∧
             (Known
               (((w6.alloc (Obj.cells #[Value.string { data := #[] }, Value.slice none (0 : Nat) (0 : Nat)] (107 : Nat))).setCell { block := w6.heap.size, off := (0 : Nat) } (Value.string s8)).setCell
                {block := w6.heap.size, off := (1 : Nat) } (Value.slice q9 n10 n11))
               [(w6.heap.size, [((0 : Nat), Value.string s8), ((1 : Nat), Value.slice q9 n10 n11)])] →
              Rets Tryd.prog (134 : Nat) #[Value.string p1, Value.string s8]
               (((w6.alloc (Obj.cells #[Value.string { data := #[] }, Value.slice none (0 : Nat) (0 : Nat)] (107 : Nat))).setCell { block := w6.heap.size, off := (0 : Nat) } (Value.string s8)).setCell
                {block := w6.heap.size, off := (1 : Nat) } (Value.slice q9 n10 n11))
               fun (v12 : Value) (w13 : World) =>
               ∃ (t14 : Bool),
                v12 = Value.bool t14 ∧
                 Keeps
                   (((w6.alloc (Obj.cells #[Value.string { data := #[] }, Value.slice none (0 : Nat) (0 : Nat)] (107 : Nat))).setCell { block := w6.heap.size, off := (0 : Nat) }
                      (Value.string s8)).setCell
                    {block := w6.heap.size, off := (1 : Nat) } (Value.slice q9 n10 n11))
                   w13 [w6.heap.size] ∧
                  bif t14 then
                   Runs Tryd.prog (Builtin.append_ #[(46 : Nat), (46 : Nat)] (46 : Nat) #[Value.slice q3 n4 n5, Value.slice (some { block := w13.heap.size, off := (0 : Nat) }) (1 : Nat) (1 : Nat)])
                    (w13.alloc (Obj.cells #[Value.string s8] (9 : Nat))) fun (v15 : Value) (w16 : World) =>
                    ∃ (q17 : Option Addr),
                     ∃ (n18 : Nat),
                      ∃ (n19 : Nat),
                       v15 = Value.slice q17 n18 n19 ∧
                        Keeps (w13.alloc (Obj.cells #[Value.string s8] (9 : Nat))) w16 [w6.heap.size] ∧
                         Wr IntKind.i64 (i2 + (1 : Int)) fun (i20 : Int) => I0 i20 q17 n18 n19 w16 ∧ I1 i20 q17 n18 n19 w16 < I1 i2 q3 n4 n5 w6
                  else Wr IntKind.i64 (i2 + (1 : Int)) fun (i21 : Int) => I0 i21 q3 n4 n5 w13 ∧ I1 i21 q3 n4 n5 w13 < I1 i2 q3 n4 n5 w6)
     else R (Ending.returned (Value.slice q3 n4 n5)) w6
theorem vcTryd193 (p0 : Option Addr) (n0 c0 : Nat) (p1 : ByteArray) (w : World) (R : Ending → World → Prop) : SX.vcFn Tryd.prog [(3, ⟨[(10, .int .i64), (5, .slice)], [1, 8, 9], []⟩)] Tryd.f193 [.v (.slice p0 n0 c0), .v (.string p1)] [] w R = VCTryd193 p0 n0 c0 p1 w R := by kernel_rfl
def VCTryd175 (p0 : Int) (w : World) (R : Ending → World → Prop) : Prop :=
bif p0 == (1 : Int) then bif p0 == (1 : Int) then R (Ending.returned (Value.bool true)) w else R (Ending.returned (Value.bool false)) w
else
 bif p0 == (2 : Int) then bif p0 == (2 : Int) then R (Ending.returned (Value.bool true)) w else R (Ending.returned (Value.bool false)) w
 else
  bif p0 == (3 : Int) then bif p0 == (3 : Int) then R (Ending.returned (Value.bool true)) w else R (Ending.returned (Value.bool false)) w
  else
   bif p0 == (4 : Int) then bif p0 == (4 : Int) then R (Ending.returned (Value.bool true)) w else R (Ending.returned (Value.bool false)) w
   else
    bif p0 == (5 : Int) then bif p0 == (5 : Int) then R (Ending.returned (Value.bool true)) w else R (Ending.returned (Value.bool false)) w
    else
     bif p0 == (6 : Int) then bif p0 == (6 : Int) then R (Ending.returned (Value.bool true)) w else R (Ending.returned (Value.bool false)) w
     else
      bif p0 == (11 : Int) then bif p0 == (11 : Int) then R (Ending.returned (Value.bool true)) w else R (Ending.returned (Value.bool false)) w
      else
       bif p0 == (12 : Int) then bif p0 == (12 : Int) then R (Ending.returned (Value.bool true)) w else R (Ending.returned (Value.bool false)) w
       else
        bif p0 == (13 : Int) then bif p0 == (13 : Int) then R (Ending.returned (Value.bool true)) w else R (Ending.returned (Value.bool false)) w
        else bif p0 == (14 : Int) then R (Ending.returned (Value.bool true)) w else R (Ending.returned (Value.bool false)) w
theorem vcTryd175 (p0 : Int) (w : World) (R : Ending → World → Prop) : SX.vcFn Tryd.prog [] Tryd.f175 [.v (.int .i64 p0)] [] w R = VCTryd175 p0 w R := by kernel_rfl
def VCTryd213 (th : Bool) (sq : Option Addr) (sn sc : Nat) (p1 : Option Addr) (w : World) (R : Ending → World → Prop) : Prop :=
SX.Ptr p1 fun (a0 : Addr) =>
 ∃ (t1 : Bool),
  (w.alloc (Obj.cells #[Value.bool th, Value.slice sq sn sc] (130 : Nat))).cell? a0 = some (Value.bool t1) ∧
   (Known (w.alloc (Obj.cells #[Value.bool th, Value.slice sq sn sc] (130 : Nat))) [(w.heap.size, [((0 : Nat), Value.bool th), ((1 : Nat), Value.slice sq sn sc)])] →
    R (Ending.returned (Value.bool (th == t1))) (w.alloc (Obj.cells #[Value.bool th, Value.slice sq sn sc] (130 : Nat))))
theorem vcTryd213 (th : Bool) (sq : Option Addr) (sn sc : Nat) (p1 : Option Addr) (w : World) (R : Ending → World → Prop) : SX.vcFn Tryd.prog [] Tryd.f213 [.v (.agg #[.bool th, .slice sq sn sc]), .v (.pointer p1)] [] w R = VCTryd213 th sq sn sc p1 w R := by kernel_rfl
def VCTryd95 (p : Option Addr) (th : Bool) (sq : Option Addr) (sn sc : Nat) (w : World) (R : Ending → World → Prop) : Prop :=
bif p.isNone then
 Known (w.alloc (Obj.cells #[Value.bool th, Value.slice sq sn sc] (130 : Nat))) [(w.heap.size, [((0 : Nat), Value.bool th), ((1 : Nat), Value.slice sq sn sc)])] →
  R (Ending.returned (Value.bool false)) (w.alloc (Obj.cells #[Value.bool th, Value.slice sq sn sc] (130 : Nat)))
else
 SX.Ptr p fun (a0 : Addr) =>
  ∃ (q1 : Option Addr),
   ∃ (n2 : Nat),
    ∃ (n3 : Nat),
     (w.alloc (Obj.cells #[Value.bool th, Value.slice sq sn sc] (130 : Nat))).cell? (a0.add (0 : Nat)) = some (Value.slice q1 n2 n3) ∧
      ∃ (I4 : Int → Bool → World → Prop),
       ∃ (I5 : Int → Bool → World → Nat),
        I4 (0 : Int) false (w.alloc (Obj.cells #[Value.bool th, Value.slice sq sn sc] (130 : Nat))) ∧
         ∀ (i6 : Int) (t7 : Bool) (w8 : World),
          I4 i6 t7 w8 →
           Known w8 [(w.heap.size, [((0 : Nat), Value.bool th), ((1 : Nat), Value.slice sq sn sc)])] →
            bif decide (i6 < (↑n2 : Int)) then
             ((0 : Int) ≤ i6 ∧ i6 < (↑n2 : Int)) ∧
              SX.Ptr q1 fun (a9 : Addr) =>
               ∃ (t10 : Bool),
                ∃ (q11 : Option Addr),
                 ∃ (n12 : Nat),
                  ∃ (n13 : Nat),
                   (w8.cell? ((a9.add (i6.toNat * (2 : Nat))).add (0 : Nat)) = some (Value.bool t10) ∧
                     w8.cell? ((a9.add (i6.toNat * (2 : Nat))).add (1 : Nat)) = some (Value.slice q11 n12 n13) ∧ True) ∧
                    bif !t10 == th then
                     Wr IntKind.i64 (i6 + (1 : Int)) fun (i14 : Int) =>
                      SameVals [Value.bool th, Value.slice sq sn sc] [Value.bool th, Value.slice sq sn sc] ∧
                       I4 i14 t7
                         (((w8.alloc (Obj.cells #[Value.bool false, Value.slice none (0 : Nat) (0 : Nat)] (130 : Nat))).setCell { block := w8.heap.size, off := (0 : Nat) }
                            (Value.bool t10)).setCell
                          {block := w8.heap.size, off := (1 : Nat) } (Value.slice q11 n12 n13)) ∧
                        I5 i14 t7
                          (((w8.alloc (Obj.cells #[Value.bool false, Value.slice none (0 : Nat) (0 : Nat)] (130 : Nat))).setCell { block := w8.heap.size, off := (0 : Nat) }
                             (Value.bool t10)).setCell
                           {block := w8.heap.size, off := (1 : Nat) } (Value.slice q11 n12 n13)) <
                         I5 i6 t7 w8
                    else
                     bif !t10 then
                      Known
                        (((w8.alloc (Obj.cells #[Value.bool false, Value.slice none (0 : Nat) (0 : Nat)] (130 : Nat))).setCell { block := w8.heap.size, off := (0 : Nat) } (Value.bool t10)).setCell
                         {block := w8.heap.size, off := (1 : Nat) } (Value.slice q11 n12 n13))
                        [(w.heap.size, [((0 : Nat), Value.bool th), ((1 : Nat), Value.slice sq sn sc)]), (w8.heap.size, [((0 : Nat), Value.bool t10), ((1 : Nat), Value.slice q11 n12 n13)])] →
                       R (Ending.returned (Value.bool true))
                        (((w8.alloc (Obj.cells #[Value.bool false, Value.slice none (0 : Nat) (0 : Nat)] (130 : Nat))).setCell { block := w8.heap.size, off := (0 : Nat) } (Value.bool t10)).setCell
                         {block := w8.heap.size, off := (1 : Nat) } (Value.slice q11 n12 n13))
                     else
                      Known
                        (((w8.alloc (Obj.cells #[Value.bool false, Value.slice none (0 : Nat) (0 : Nat)] (130 : Nat))).setCell { block := w8.heap.size, off := (0 : Nat) } (Value.bool t10)).setCell
                         {block := w8.heap.size, off := (1 : Nat) } (Value.slice q11 n12 n13))
                        [(w.heap.size, [((0 : Nat), Value.bool th), ((1 : Nat), Value.slice sq sn sc)]), (w8.heap.size, [((0 : Nat), Value.bool t10), ((1 : Nat), Value.slice q11 n12 n13)])] →
                       Rets Tryd.prog (84 : Nat) #[Value.slice q11 n12 n13, Value.slice sq sn sc]
                        (((w8.alloc (Obj.cells #[Value.bool false, Value.slice none (0 : Nat) (0 : Nat)] (130 : Nat))).setCell { block := w8.heap.size, off := (0 : Nat) } (Value.bool t10)).setCell
                         {block := w8.heap.size, off := (1 : Nat) } (Value.slice q11 n12 n13))
                        fun (v15 : Value) (w16 : World) =>
                        ∃ (t17 : Bool),
                         v15 = Value.bool t17 ∧
                          Keeps
                            (((w8.alloc (Obj.cells #[Value.bool false, Value.slice none (0 : Nat) (0 : Nat)] (130 : Nat))).setCell { block := w8.heap.size, off := (0 : Nat) }
                               (Value.bool t10)).setCell
                             {block := w8.heap.size, off := (1 : Nat) } (Value.slice q11 n12 n13))
                            w16 [w.heap.size, w8.heap.size] ∧
                           bif t17 then
                            Known w16
                              [(w.heap.size, [((0 : Nat), Value.bool th), ((1 : Nat), Value.slice sq sn sc)]),
                               (w8.heap.size, [((0 : Nat), Value.bool t10), ((1 : Nat), Value.slice q11 n12 n13)])] →
                             R (Ending.returned (Value.bool true)) w16
                           else
                            Wr IntKind.i64 (i6 + (1 : Int)) fun (i18 : Int) =>
                             SameVals [Value.bool th, Value.slice sq sn sc] [Value.bool th, Value.slice sq sn sc] ∧ I4 i18 t7 w16 ∧ I5 i18 t7 w16 < I5 i6 t7 w8
            else Known w8 [(w.heap.size, [((0 : Nat), Value.bool th), ((1 : Nat), Value.slice sq sn sc)])] → R (Ending.returned (Value.bool t7)) w8
theorem vcTryd95 (p : Option Addr) (th : Bool) (sq : Option Addr) (sn sc : Nat) (w : World) (R : Ending → World → Prop) : SX.vcFn Tryd.prog [(5, ⟨[(15, .int .i64), (5, .bool)], [3, 13, 14], []⟩)] Tryd.f95 [.v (.pointer p), .v (.agg #[.bool th, .slice sq sn sc])] [] w R = VCTryd95 p th sq sn sc w R := by kernel_rfl
def VCTryd177 (e : Int) (aq : Option Addr) (an ac : Nat) (z : Int) (nq : Option Addr) (nn nc : Nat) (lq : Option Addr) (ln lc : Nat) (re po : Bool) (w : World) (R : Ending → World → Prop) : Prop :=
bif (↑an : Int) == (0 : Int) then
 bif z == (0 : Int) then
  bif (↑nn : Int) == (0 : Int) then
   Known (w.alloc (Obj.cells #[Value.int IntKind.i64 e, Value.slice aq an ac, Value.int IntKind.i64 z, Value.slice nq nn nc, Value.slice lq ln lc, Value.bool re, Value.bool po] (126 : Nat)))
     [(w.heap.size,
       [((0 : Nat), Value.int IntKind.i64 e), ((1 : Nat), Value.slice aq an ac), ((2 : Nat), Value.int IntKind.i64 z), ((3 : Nat), Value.slice nq nn nc), ((4 : Nat), Value.slice lq ln lc),
        ((5 : Nat), Value.bool re), ((6 : Nat), Value.bool po)])] →
    R (Ending.returned (Value.bool ((↑ln : Int) == (0 : Int))))
     (w.alloc (Obj.cells #[Value.int IntKind.i64 e, Value.slice aq an ac, Value.int IntKind.i64 z, Value.slice nq nn nc, Value.slice lq ln lc, Value.bool re, Value.bool po] (126 : Nat)))
  else
   Known (w.alloc (Obj.cells #[Value.int IntKind.i64 e, Value.slice aq an ac, Value.int IntKind.i64 z, Value.slice nq nn nc, Value.slice lq ln lc, Value.bool re, Value.bool po] (126 : Nat)))
     [(w.heap.size,
       [((0 : Nat), Value.int IntKind.i64 e), ((1 : Nat), Value.slice aq an ac), ((2 : Nat), Value.int IntKind.i64 z), ((3 : Nat), Value.slice nq nn nc), ((4 : Nat), Value.slice lq ln lc),
        ((5 : Nat), Value.bool re), ((6 : Nat), Value.bool po)])] →
    R (Ending.returned (Value.bool false))
     (w.alloc (Obj.cells #[Value.int IntKind.i64 e, Value.slice aq an ac, Value.int IntKind.i64 z, Value.slice nq nn nc, Value.slice lq ln lc, Value.bool re, Value.bool po] (126 : Nat)))
 else
  Known (w.alloc (Obj.cells #[Value.int IntKind.i64 e, Value.slice aq an ac, Value.int IntKind.i64 z, Value.slice nq nn nc, Value.slice lq ln lc, Value.bool re, Value.bool po] (126 : Nat)))
    [(w.heap.size,
      [((0 : Nat), Value.int IntKind.i64 e), ((1 : Nat), Value.slice aq an ac), ((2 : Nat), Value.int IntKind.i64 z), ((3 : Nat), Value.slice nq nn nc), ((4 : Nat), Value.slice lq ln lc),
       ((5 : Nat), Value.bool re), ((6 : Nat), Value.bool po)])] →
   R (Ending.returned (Value.bool false))
    (w.alloc (Obj.cells #[Value.int IntKind.i64 e, Value.slice aq an ac, Value.int IntKind.i64 z, Value.slice nq nn nc, Value.slice lq ln lc, Value.bool re, Value.bool po] (126 : Nat)))
else
 Known (w.alloc (Obj.cells #[Value.int IntKind.i64 e, Value.slice aq an ac, Value.int IntKind.i64 z, Value.slice nq nn nc, Value.slice lq ln lc, Value.bool re, Value.bool po] (126 : Nat)))
   [(w.heap.size,
     [((0 : Nat), Value.int IntKind.i64 e), ((1 : Nat), Value.slice aq an ac), ((2 : Nat), Value.int IntKind.i64 z), ((3 : Nat), Value.slice nq nn nc), ((4 : Nat), Value.slice lq ln lc), ((5 : Nat), Value.bool re),
      ((6 : Nat), Value.bool po)])] →
  R (Ending.returned (Value.bool false))
   (w.alloc (Obj.cells #[Value.int IntKind.i64 e, Value.slice aq an ac, Value.int IntKind.i64 z, Value.slice nq nn nc, Value.slice lq ln lc, Value.bool re, Value.bool po] (126 : Nat)))
theorem vcTryd177 (e : Int) (aq : Option Addr) (an ac : Nat) (z : Int) (nq : Option Addr) (nn nc : Nat) (lq : Option Addr) (ln lc : Nat) (re po : Bool) (w : World) (R : Ending → World → Prop) : SX.vcFn Tryd.prog [] Tryd.f177 [.v (.agg #[.int .i64 e, .slice aq an ac, .int .i64 z, .slice nq nn nc, .slice lq ln lc, .bool re, .bool po])] [] w R = VCTryd177 e aq an ac z nq nn nc lq ln lc re po w R := by kernel_rfl
end Go.Proofs.YtbpknjldphckgaaDoor

namespace Go.Proofs.YtbpknjldphckgaaDoor
open Go Go.SX Go.Proofs Go.Lib
set_option maxRecDepth 100000
set_option linter.unusedVariables false
set_option linter.unusedSimpArgs false
theorem c211 (s p : ByteArray) (w : World) : Rets Tryd.prog 211 #[.string s, .string p] w fun v w' => v = .bool ((bytesL p).isPrefixOf (bytesL s)) ∧ w' = w := by
  refine ent [_, _] Tryd.func211 ((vcTryd211 _ _ w _).mpr ?_)
  unfold VCTryd211
  have hs := bytesL_size s
  have hp := bytesL_size p
  refine bif_dec (fun h => ⟨⟨by omega, by omega⟩, _, rfl, ?_, rfl⟩) (fun h => ⟨_, rfl, ?_, rfl⟩)
  · rw [beq_str, bytesL_extract, Int.toNat_natCast]
    congr 1
    rw [Bool.eq_iff_iff]
    simp only [beq_iff_eq, List.drop_zero, Nat.sub_zero, List.isPrefixOf_iff_prefix]
    rw [List.prefix_iff_eq_take, hp]
    exact eq_comm
  · congr 1
    symm
    rw [← Bool.not_eq_true, List.isPrefixOf_iff_prefix]
    intro hh
    have := hh.length_le
    omega
theorem c200 (s p : ByteArray) (w : World) : Rets Tryd.prog 200 #[.string s, .string p] w fun v w' => ∃ r, v = .tuple #[.string r, .bool ((bytesL p).isPrefixOf (bytesL s))] ∧ w' = w := by
  refine ent [_, _] Tryd.func200 ((vcTryd200 _ _ w _).mpr ?_)
  unfold VCTryd200
  refine (c211 s p w).mono ?_
  rintro v wx ⟨rfl, e⟩
  obtain rfl := e.symm
  refine ⟨_, rfl, (Kp.refl none_ _).keeps0, bif_not (fun h => ⟨_, rfl, _, by rw [h], rfl⟩) (fun h => ?_)⟩
  have hs := bytesL_size s
  have hp := bytesL_size p
  have hl := (List.isPrefixOf_iff_prefix.1 h).length_le
  exact ⟨⟨by omega, by omega⟩, _, rfl, _, by rw [h], rfl⟩
theorem c188 (s p : ByteArray) (w : World) : Rets Tryd.prog 188 #[.string s, .string p] w fun v w' => ∃ r, v = .tuple #[.string r, .bool ((bytesL p).isPrefixOf (bytesL s))] ∧ w' = w := by
  refine ent [_, _] Tryd.func188 ((vcTryd188 _ _ w _).mpr ?_)
  unfold VCTryd188
  refine (c200 s p w).mono ?_
  rintro v wx ⟨r, rfl, e⟩
  obtain rfl := e.symm
  exact ⟨_, _, rfl, (Kp.refl none_ _).keeps0, _, rfl, _, rfl, rfl⟩
theorem c170 {w : World} (hml : ML w) (f s : ByteArray) (hf : f.size ≤ 1000000) : Rets Tryd.prog 170 #[.string f, .string s] w fun v w' => ∃ r, v = .tuple #[.string r, .bool (inF (bytesL f) (bytesL s))] ∧ Kp none_ w w' := by
  refine ent [_, _] Tryd.func170 ((vcTryd170 _ _ w _).mpr ?_)
  unfold VCTryd170
  refine (c104 hml s).mono ?_
  rintro v w1 ⟨rfl, k1⟩
  rw [beq_str]
  have e0 : bytesL ({ data := #[] } : ByteArray) = [] := rfl
  rw [e0]
  refine ⟨_, rfl, k1.keeps0, bif_not (fun h => ⟨_, rfl, _, by unfold inF; rw [h]; rfl, k1⟩) (fun h => bif_b (fun h2 => ⟨_, rfl, _, by unfold inF; rw [h, h2]; rfl, k1⟩) (fun h2 => (c104 (hml.kp0 k1) f).mono ?_))⟩
  rintro v w2 ⟨rfl, k2⟩
  refine ⟨_, rfl, k2.keeps0, bif_not (fun h3 => ⟨_, rfl, _, by unfold inF; rw [h, h2, h3]; rfl, k1.trans k2⟩) (fun h3 => ⟨by omega, (c188 _ _ w2).mono ?_⟩)⟩
  rintro v w3 ⟨r, rfl, rfl⟩
  have e1 : bytesL (f ++ { data := #[(47 : UInt8)] }) = bytesL f ++ [47] := by
    show (f ++ { data := #[(47 : UInt8)] } : ByteArray).data.toList = _
    rw [ByteArray.data_append]; simp
  rw [e1]
  exact ⟨_, _, rfl, (Kp.refl none_ _).keeps0, _, rfl, _, by unfold inF; rw [h, h2, h3]; rfl, k1.trans k2⟩
theorem c134 {w : World} (hml : ML w) (f s : ByteArray) (hf : f.size ≤ 1000000) : Rets Tryd.prog 134 #[.string f, .string s] w fun v w' => v = .bool (inF (bytesL f) (bytesL s)) ∧ Kp none_ w w' := by
  refine ent [_, _] Tryd.func134 ((vcTryd134 _ _ w _).mpr ?_)
  unfold VCTryd134
  refine (c170 hml f s hf).mono ?_
  rintro v w1 ⟨r, rfl, k1⟩
  exact ⟨_, _, rfl, k1.keeps0, _, rfl, rfl, k1⟩
theorem c132 (f s : ByteArray) (w : World) : Rets Tryd.prog 132 #[.string f, .string s] w fun v w' => v = .bool (inF (bytesL f) (bytesL s)) ∧ Kp none_ w w' := by
  refine ent [_, _] Tryd.func132 ((vcTryd132 _ _ w _).mpr ?_)
  unfold VCTryd132
  have hs := bytesL_size s
  have hf := bytesL_size f
  refine (c29 s w).mono ?_
  rintro v w1 ⟨rfl, k1⟩
  simp only [beq_str]
  have e0 : bytesL ({ data := #[] } : ByteArray) = [] := rfl
  rw [e0]
  refine ⟨_, rfl, k1.keeps0, bif_not (fun h => ⟨_, rfl, by unfold inF; rw [h]; rfl, k1⟩) (fun h => bif_not (fun h2 => ?_) (fun h2 => ?_))⟩
  · refine (c29 f w1).mono ?_
    rintro v w2 ⟨rfl, k2⟩
    have K := k1.trans k2
    refine ⟨_, rfl, k2.keeps0, bif_not (fun h3 => ⟨_, rfl, by unfold inF; rw [h, h2, h3]; rfl, K⟩) (fun h3 => bif_b (fun h4 => by rw [h2] at h4; cases h4) (fun _ => ?_))⟩
    have eI : inF (bytesL f) (bytesL s) = (bytesL f ++ [47]).isPrefixOf (bytesL s) := by unfold inF; rw [h, h2, h3]; simp
    rw [eI, prefix_slash]
    refine bif_dec (fun h5 => ⟨⟨by omega, by omega⟩, ?_⟩) (fun h5 => ⟨_, rfl, ?_, K⟩)
    · rw [bytesL_extract, Int.toNat_natCast, List.drop_zero, Nat.sub_zero]
      rw [decide_eq_true (show (bytesL f).length < (bytesL s).length by omega), Bool.true_and, hf]
      refine bif_b (fun h6 => ⟨⟨by omega, by omega⟩, _, rfl, ?_, K⟩) (fun h6 => ⟨_, rfl, ?_, K⟩)
      · rw [h6, Bool.true_and, byteAt_get (by omega), List.getElem?_eq_getElem (by omega)]
        congr 1
        rw [Bool.eq_iff_iff]
        simp only [beq_iff_eq, Option.some.injEq]
        constructor
        · intro e
          refine UInt8.toNat_inj.1 ?_
          show _ = 47
          omega
        · intro e
          rw [e]; rfl
      · rw [h6]; rfl
    · rw [decide_eq_false (by omega)]; rfl
  · refine bif_b (fun h3 => ⟨_, rfl, by unfold inF; rw [h, h2]; rfl, k1⟩) (fun h3 => by rw [h2] at h3; cases h3)
/-- A row of names. -/
def StrsAt (w : World) (q : Option Addr) (l : List (List UInt8)) : Prop := ∀ i (h : i < l.length), ∃ a, q = some a ∧ w.cell? (a.add i) = some (.string (ba l[i]))
theorem StrsAt.kp {S : Nat → Prop} {w w' : World} {q : Option Addr} {l : List (List UInt8)} (h : StrsAt w q l) (k : Kp S w w') (hs : ∀ x, q = some x → x.block < w.heap.size → 0 < l.length → ¬ S x.block) : StrsAt w' q l := fun i hi => by
  obtain ⟨a, e, hc⟩ := h i hi
  have hl := cell_lt hc
  rw [add_block] at hl
  exact ⟨a, e, k.cell hc (by rw [add_block]; exact hs a e hl (by omega))⟩
theorem StrsAt.kp0 {w w' : World} {q : Option Addr} {l : List (List UInt8)} (h : StrsAt w q l) (k : Kp none_ w w') : StrsAt w' q l := h.kp k fun _ _ _ _ => id
def strsC (l : List (List UInt8)) : List Value := l.map fun s => .string (ba s)
theorem strs_of {w : World} {own : Nat → Prop} {q : Option Addr} {n c : Nat} {l : List (List UInt8)} (h : OwnRow w own 9 1 (.slice q n c) l.length (strsC l)) : StrsAt w q l := fun i hi => h.at (by simp [strsC, hi])
theorem str_at {w : World} {q : Option Addr} {l : List (List UInt8)} (h : StrsAt w q l) {i : Nat} (hi : i < l.length) {K : Addr → Prop} (hK : ∀ x, q = some x → w.cell? (x.add (((i : Int).toNat) * 1)) = some (.string (ba l[i])) → K x) : Ptr q K := by
  obtain ⟨x, e, m⟩ := h i hi
  subst e
  rw [ptr_some]
  exact hK x rfl (by rwa [Int.toNat_natCast, Nat.mul_one])
theorem c192 {w : World} {q r : Option Addr} {c d : Nat} {l m : List (List UInt8)} (hq : StrsAt w q l) (hr : StrsAt w r m) (hl : l.length ≤ 1000000) : Rets Tryd.prog 192 #[.slice q l.length c, .slice r m.length d] w fun v w' => v = .bool (l == m) ∧ Kp none_ w w' := by
  refine ent [_, _] Tryd.func192 ((vcTryd192 _ _ _ _ _ _ w _).mpr ?_)
  unfold VCTryd192
  have no : l ≠ m → (l == m) = false := fun h => by simpa using h
  refine bif_ne (fun hne => ⟨_, rfl, by rw [no]; exact fun e => hne (by rw [e]), Kp.refl _ _⟩) (fun he => ?_)
  have he : l.length = m.length := by omega
  refine ⟨fun i w' => ∃ j : Nat, i = j ∧ j ≤ l.length ∧ Kp none_ w w' ∧ ∀ x (hk : x < l.length), x < j → l[x] = m[x]'(by omega), fun i _ => (l.length - i).toNat, ⟨0, rfl, by omega, Kp.refl _ _, fun x hk h => by omega⟩, ?_⟩
  rintro i w3 ⟨j, rfl, hj, k3, ha⟩
  have kd := k3.drew
  refine bif_dec (fun h1 => ?_) (fun h1 => ⟨_, rfl, ?_, k3⟩)
  · have hjl : j < l.length := by omega
    have hjm : j < m.length := by omega
    refine ⟨⟨by omega, by omega⟩, str_at (hq.kp0 kd) hjl fun x _ mx => ⟨_, mx, ⟨by omega, by omega⟩, str_at (hr.kp0 kd) hjm fun y _ my => ⟨_, my, ?_⟩⟩⟩
    rw [toList_ba, toList_ba]
    refine bif_not (fun hh => ⟨_, rfl, ?_, kd⟩) (fun hh => wr64 (by omega) ⟨⟨j + 1, by omega, by omega, kd, fun x hk hxj => ?_⟩, by first | omega | (dsimp only; omega)⟩)
    · rw [no]
      intro e
      subst e
      simp at hh
    · by_cases e : x = j
      · subst e; simpa using hh
      · exact ha x hk (by omega)
  · have : l = m := List.ext_getElem he fun i h1 h2 => ha i h1 (by omega)
    subst this
    simp
/-- The names in a folder. -/
theorem c193 {w : World} (hml : ML w) {q : Option Addr} {c n : Nat} {L : List Fil} (h : FRd w q n L) (hL : L.length ≤ 1000000) (f : ByteArray) (hf : f.size ≤ 1000000) : Rets Tryd.prog 193 #[.slice q n c, .string f] w fun v w' =>
    ∃ q' c', v = .slice q' (underF L (bytesL f)).length c' ∧ StrsAt w' q' (underF L (bytesL f)) ∧ Kp none_ w w' := by
  obtain ⟨l, rfl, rfl, hx, hdx⟩ := h
  have hl : l.length ≤ 1000000 := by simpa using hL
  refine ent [_, _] Tryd.func193 ((vcTryd193 _ _ _ _ w _).mpr ?_)
  unfold VCTryd193
  have stp : ∀ j (hj : j < l.length), underF ((l.take (j + 1)).map Fx.fil) (bytesL f) = if inF (bytesL f) l[j].s = true then underF ((l.take j).map Fx.fil) (bytesL f) ++ [l[j].s] else underF ((l.take j).map Fx.fil) (bytesL f) := fun j hj => by
    rw [List.take_succ_eq_append_getElem hj, List.map_append]
    unfold underF
    rw [List.filter_append, List.map_append]
    split <;> rename_i hh <;> simp [hh]
  refine ⟨fun i q n c w' => ∃ j : Nat, i = j ∧ j ≤ l.length ∧ n = (underF ((l.take j).map Fx.fil) (bytesL f)).length ∧ n ≤ j ∧ OwnRow w' (fun i => w.heap.size ≤ i) 9 1 (.slice q n c) n (strsC (underF ((l.take j).map Fx.fil) (bytesL f))) ∧ Kp (fun i => w.heap.size ≤ i) w w', fun i _ _ _ _ => (l.length - i).toNat, ⟨0, rfl, by omega, by simp [underF], by omega, by simpa [underF, strsC] using OwnRow.nil _ _ _ _, Kp.refl _ _⟩, ?_⟩
  rintro i q3 n4 c5 w6 ⟨j, rfl, hj, rfl, hnj, r6, k6⟩
  refine bif_dec (fun h1 => ?_) (fun h1 => ⟨_, rfl, q3, c5, ?_, ?_, k6.narrow (Nat.le_refl _)⟩)
  · have hjl : j < l.length := by omega
    refine ⟨⟨by omega, by omega⟩, fx_at (hx.far k6 (Nat.le_refl _)) hjl fun x _ mx => ⟨_, _, _, _, ⟨mx.c0, mx.c1, trivial⟩, fun _ => ?_⟩⟩
    obtain ⟨k7, z7, _⟩ := laid2 (w := w6) (ba l[j].s) (.slice l[j].q l[j].d.length l[j].c)
    simp only
    generalize ((w6.alloc (.cells #[.string { data := #[] }, .slice none 0 0] 107)).setCell ⟨w6.heap.size, 0, none⟩ (.string (ba l[j].s))).setCell ⟨w6.heap.size, 1, none⟩ (.slice l[j].q l[j].d.length l[j].c) = w7 at *
    have K7 := (k6.trans k7.wide).narrow (Nat.le_refl _)
    refine (c134 (hml.kp0 K7) f (ba l[j].s) hf).mono ?_
    rw [bytesL_ba]
    rintro v w8 ⟨rfl, k8⟩
    have z68 : w6.heap.size < w8.heap.size := Nat.lt_of_lt_of_le z7 k8.size
    have hs := stp j hjl
    have r8 := (r6.mono (own' := fun i => w.heap.size ≤ i ∧ i < w6.heap.size) fun i hi hl => ⟨hi, hl⟩).kp (k7.trans k8) fun _ _ _ _ _ => id
    have K8 := K7.trans k8
    refine ⟨_, rfl, k8.k0 z7, bif_b (fun hh => ?_) (fun hh => wr64 (by omega) ⟨⟨j + 1, by omega, by omega, ?_, by omega, ?_, K8.wide⟩, by first | omega | (dsimp only; omega)⟩)⟩
    · rw [if_pos hh] at hs
      refine append_new (own := fun i => w.heap.size ≤ i ∧ i < w6.heap.size) (xs := strsC (underF ((l.take j).map Fx.fil) (bytesL f))) #[.string (ba l[j].s)] und46 elem9 (by omega) r8 rfl (fun u hu => by simp at hu; subst hu; simp [Value.oneCell']) (by omega) fun q' c' w9 r9 k9 k9' => ⟨_, _, _, rfl, kso k9' (fun hh => Nat.lt_irrefl _ hh.2) (by rw [alloc_size]; omega), wr64 (by omega) ⟨⟨j + 1, by omega, by omega, by rw [hs]; simp, by omega, ?_, K8.wide.trans (k9.mono fun i _ hi => hi.1)⟩, by first | omega | (dsimp only; omega)⟩⟩
      rw [hs]
      have := K8.size
      have r9 := r9.mono (own' := fun i => w.heap.size ≤ i) fun i hi _ => hi.elim (fun h => h.1) fun hf => Nat.le_trans this hf
      simpa [strsC] using r9
    · rw [hs, if_neg (by rw [hh]; decide)]
    · rw [hs, if_neg (by rw [hh]; decide)]
      exact r8.mono fun i hi _ => hi.1
  · rw [List.take_of_length_le (by omega)]
  · rw [List.take_of_length_le (by omega)] at r6
    exact strs_of r6
end Go.Proofs.YtbpknjldphckgaaDoor

namespace Go.Proofs.YtbpknjldphckgaaDoor
open Go Go.SX Go.Proofs Go.Lib
set_option maxRecDepth 100000
set_option linter.unusedVariables false
set_option linter.unusedSimpArgs false
/-- A state: whether an archive is there, its files, where they lie. -/
structure Stx where
  t : Bool
  L : List Fil
  q : Option Addr
  c : Nat
abbrev Stx.sta (x : Stx) : Bool × List Fil := (x.t, x.L)
structure StAt (w : World) (a : Addr) (x : Stx) : Prop where
  c0 : w.cell? (a.add 0) = some (.bool x.t)
  c1 : w.cell? (a.add 1) = some (.slice x.q x.L.length x.c)
  fi : FRd w x.q x.L.length x.L
def StsAt (w : World) (q : Option Addr) (l : List Stx) : Prop := ∀ i (h : i < l.length), ∃ x, q = some x ∧ StAt w (x.add (i * 2)) l[i]
theorem StsAt.kp0 {w w' : World} {q : Option Addr} {l : List Stx} (h : StsAt w q l) (k : Kp none_ w w') : StsAt w' q l := fun i hi => by
  obtain ⟨x, e, m⟩ := h i hi
  exact ⟨x, e, k.cell0 m.c0, k.cell0 m.c1, m.fi.kp0 k⟩
theorem st_at {w : World} {q : Option Addr} {l : List Stx} (h : StsAt w q l) {i : Nat} (hi : i < l.length) {K : Addr → Prop} (hK : ∀ x, q = some x → StAt w (x.add (((i : Int).toNat) * 2)) l[i] → K x) : Ptr q K := by
  obtain ⟨x, e, m⟩ := h i hi
  subst e
  rw [ptr_some]
  exact hK x rfl (by rwa [Int.toNat_natCast])
def SRd (w : World) (q : Option Addr) (n : Nat) (M : List (Bool × List Fil)) : Prop := ∃ l : List Stx, l.map Stx.sta = M ∧ n = l.length ∧ StsAt w q l
theorem SRd.kp0 {w w' : World} {q : Option Addr} {n : Nat} {M : List (Bool × List Fil)} (h : SRd w q n M) (k : Kp none_ w w') : SRd w' q n M := by
  obtain ⟨l, h1, h2, h3⟩ := h
  exact ⟨l, h1, h2, h3.kp0 k⟩
/-- A model that is read. -/
structure MRd (w : World) (b : Nat) (p : MM) : Prop where
  may : ∃ q n c, w.cell? ⟨b, 0, none⟩ = some (.slice q n c) ∧ SRd w q n p.may
  opn : w.cell? ⟨b, 1, none⟩ = some (.bool p.opn)
  poi : w.cell? ⟨b, 2, none⟩ = some (.bool p.poisoned)
  str : w.cell? ⟨b, 3, none⟩ = some (.bool p.streaming)
  now : ∃ q n c, w.cell? ⟨b, 4, none⟩ = some (.slice q n c) ∧ FRd w q n p.now
  nam : w.cell? ⟨b, 5, none⟩ = some (.string (ba p.name))
  dat : ∃ q n c, w.cell? ⟨b, 6, none⟩ = some (.slice q n c) ∧ BRd w q n c p.data
theorem MRd.kp0 {w w' : World} {b : Nat} {p : MM} (h : MRd w b p) (k : Kp none_ w w') : MRd w' b p := by
  obtain ⟨⟨q1, n1, c1, e1, m1⟩, h1, h2, h3, ⟨q2, n2, c2, e2, m2⟩, h4, ⟨q3, n3, c3, e3, m3⟩⟩ := h
  exact ⟨⟨q1, n1, c1, k.cell0 e1, m1.kp0 k⟩, k.cell0 h1, k.cell0 h2, k.cell0 h3, ⟨q2, n2, c2, k.cell0 e2, m2.kp0 k⟩, k.cell0 h4, ⟨q3, n3, c3, k.cell0 e3, m3.kp0 k⟩⟩
/-- Its numbers are small enough, its files rise. -/
structure OkP (p : MM) : Prop where
  asc : Asc Prod.fst p.now
  now : bigL p.now
  may : ∀ x ∈ p.may, bigL x.2
  len : p.may.length ≤ 1000000
  dat : p.data.length ≤ 1000000
  str : p.streaming = true → p.data.length ≤ 65536
def pt (b : Nat) : Value := .pointer (some ⟨b, 0, none⟩)
def mutE (p : MM) : Int := if p.streaming = true then 8 else if p.poisoned = true then 11 else 0
theorem c206 {w : World} {b : Nat} {p : MM} (h : MRd w b p) : Rets Tryd.prog 206 #[pt b] w fun v w' => v = .int .i64 (mutE p) ∧ w' = w := by
  refine ent [_] Tryd.func206 ((vcTryd206 _ w _).mpr ?_)
  unfold VCTryd206
  simp only [ptr_some, ad_add, Nat.zero_add]
  refine ⟨_, h.str, bif_b (fun hs => ⟨_, rfl, by unfold mutE; rw [if_pos hs], trivial⟩) (fun hs => ⟨_, h.poi, bif_b (fun hp => ⟨_, rfl, by unfold mutE; rw [if_neg (by rw [hs]; decide), if_pos hp], trivial⟩) (fun hp => ⟨_, rfl, by unfold mutE; rw [if_neg (by rw [hs]; decide), if_neg (by rw [hp]; decide)], trivial⟩)⟩)⟩
theorem c205 {w : World} {b : Nat} {p : MM} (h : MRd w b p) (ok : OkP p) (s : ByteArray) : Rets Tryd.prog 205 #[pt b, .string s] w fun v w' => v = .int .i64 (if hasF p.now (bytesL s) = false then 7 else 0) ∧ Kp none_ w w' := by
  refine ent [_, _] Tryd.func205 ((vcTryd205 _ _ w _).mpr ?_)
  unfold VCTryd205
  simp only [ptr_some, ad_add, Nat.zero_add]
  obtain ⟨q, n, c, e, r⟩ := h.now
  refine ⟨_, _, _, e, (c137 r ok.asc ok.now.1 s).mono ?_⟩
  rintro v w1 ⟨rfl, k1⟩
  exact ⟨_, _, rfl, k1.keeps0, bif_not (fun hh => ⟨_, rfl, by rw [if_pos hh], k1⟩) (fun hh => ⟨_, rfl, by rw [if_neg (fun h0 => by have := h0.symm.trans hh; cases this)], k1⟩)⟩
theorem c204 {w : World} {b : Nat} {p : MM} (h : MRd w b p) (ok : OkP p) (x : Int) : Rets Tryd.prog 204 #[pt b, .int .i64 x] w fun v w' => v = .int .i64 (if p.streaming = false then 15 else if x > 65536 - p.data.length then 5 else 0) ∧ w' = w := by
  refine ent [_, _] Tryd.func204 ((vcTryd204 _ _ w _).mpr ?_)
  unfold VCTryd204
  simp only [ptr_some, ad_add, Nat.zero_add]
  obtain ⟨q, n, c, e, r⟩ := h.dat
  have hn := r.len
  have := ok.dat
  subst hn
  refine ⟨_, h.str, bif_not (fun hs => ⟨_, rfl, by rw [if_pos hs], trivial⟩) (fun hs => ⟨_, _, _, e, wr64 (by omega) (bif_dec (fun hh => ⟨_, rfl, by rw [if_neg (by rw [hs]; decide), if_pos hh], trivial⟩) (fun hh => ⟨_, rfl, by rw [if_neg (by rw [hs]; decide), if_neg hh], trivial⟩))⟩)⟩
theorem c203 {w : World} (hml : ML w) {b : Nat} {p : MM} (h : MRd w b p) (ok : OkP p) (s : ByteArray) (z : Int) : Rets Tryd.prog 203 #[pt b, .string s, .int .i64 z] w fun v w' => v = .int .i64 (putEr p (bytesL s) z) ∧ Kp none_ w w' := by
  refine ent [_, _, _] Tryd.func203 ((vcTryd203 _ _ _ w _).mpr ?_)
  unfold VCTryd203
  simp only [ptr_some, ad_add, Nat.zero_add]
  refine (c206 h).mono ?_
  rintro v w1 ⟨rfl, e⟩
  obtain rfl := e.symm
  refine ⟨_, rfl, (Kp.refl none_ _).keeps0, bif_ne (fun hne => ⟨_, rfl, ?_, Kp.refl _ _⟩) (fun h0 => ?_)⟩
  · congr 1
    unfold mutE at hne ⊢
    unfold putEr
    split
    · rfl
    · rename_i hs
      rw [if_neg hs] at hne
      split
      · rfl
      · rename_i hp
        rw [if_neg hp] at hne
        exact absurd rfl hne
  · have hs : p.streaming = false ∧ p.poisoned = false := by
      unfold mutE at h0
      split at h0
      · cases h0
      · rename_i hs
        split at h0
        · cases h0
        · rename_i hp
          exact ⟨by simpa using hs, by simpa using hp⟩
    have e0 : putEr p (bytesL s) z = if okName (bytesL s) = false then 6 else if z > 65536 then 5 else if hasF p.now (bytesL s) = false ∧ 200 ≤ p.now.length then 14 else 0 := by
      unfold putEr
      rw [if_neg (by rw [hs.1]; decide), if_neg (by rw [hs.2]; decide)]
    rw [e0]
    obtain ⟨q, n, c, e, r⟩ := h.now
    refine ⟨_, _, _, e, (c137 r ok.asc ok.now.1 s).mono ?_⟩
    rintro v w2 ⟨rfl, k2⟩
    refine ⟨_, _, rfl, k2.keeps0, (c104 (hml.kp0 k2) s).mono ?_⟩
    rintro v w3 ⟨rfl, k3⟩
    have K3 := k2.trans k3
    have hl := r.len
    refine ⟨_, rfl, k3.keeps0, bif_not (fun hh => ⟨_, rfl, by rw [if_pos hh], K3⟩) (fun hh => ?_)⟩
    rw [if_neg (by rw [hh]; decide)]
    refine bif_dec (fun hz => ⟨_, rfl, by rw [if_pos hz], K3⟩) (fun hz => ?_)
    rw [if_neg hz]
    refine bif_not (fun ht => ?_) (fun ht => ⟨_, rfl, by rw [if_neg (fun h0 => by have := h0.1.symm.trans ht; cases this)], K3⟩)
    refine ⟨_, _, _, K3.cell0 e, bif_dec (fun h2 => ⟨_, rfl, by rw [if_pos ⟨ht, by omega⟩], K3⟩) (fun h2 => ⟨_, rfl, by rw [if_neg (by intro hh; omega)], K3⟩)⟩
/-- Whether a state with, or without, an archive may be. -/
theorem c213 {w : World} (x : Stx) (a : Addr) (t : Bool) (h : w.cell? a = some (.bool t)) : Rets Tryd.prog 213 #[.agg #[.bool x.t, .slice x.q x.L.length x.c], .pointer (some a)] w fun v w' => v = .bool (x.t == t) ∧ Kp none_ w w' := by
  refine ent [_, _] Tryd.func213 ((vcTryd213 _ _ _ _ _ w _).mpr ?_)
  unfold VCTryd213
  have k1 : Kp none_ w (w.alloc (.cells #[.bool x.t, .slice x.q x.L.length x.c] 130)) := (Kp.refl none_ w).alloc1 _
  rw [ptr_some]
  exact ⟨_, k1.cell0 h, fun _ => ⟨_, rfl, rfl, k1⟩⟩
theorem isGo213 : isGo Tryd.prog 213 = true := by kernel_rfl
theorem c219 {w : World} {q : Option Addr} {c : Nat} {l : List Stx} (h : StsAt w q l) (hl : l.length ≤ 1000000) (a : Addr) (t : Bool) (ha : w.cell? a = some (.bool t)) : Rets Tryd.prog 219 #[.slice q l.length c, .func (.func 213) #[] #[.pointer (some a)]] w fun v w' =>
    ∃ i : Int, v = .int .i64 i ∧ decide (i ≥ 0) = (l.any fun x => x.t == t) ∧ Kp none_ w w' := by
  refine ent [_, _] Tryd.func219 ((vcTryd219 _ _ _ _ w _).mpr ?_)
  unfold VCTryd219
  refine ⟨fun i w' => ∃ j : Nat, i = j ∧ j ≤ l.length ∧ Kp none_ w w' ∧ ∀ x (hk : x < l.length), x < j → ((l[x]).t == t) = false, fun i _ => (l.length - i).toNat, ⟨0, rfl, by omega, Kp.refl _ _, fun x hk h => by omega⟩, ?_⟩
  rintro i w3 ⟨j, rfl, hj, k3, hn⟩
  refine bif_dec (fun h1 => ?_) (fun h1 => ⟨_, rfl, _, rfl, ?_, k3⟩)
  · have hjl : j < l.length := by omega
    refine ⟨⟨by omega, by omega⟩, st_at (h.kp0 k3) hjl fun x _ mx => ⟨_, _, _, _, ⟨mx.c0, mx.c1, trivial⟩, isGo213, (c213 l[j] a t (k3.cell0 ha)).mono ?_⟩⟩
    rintro v w4 ⟨rfl, k4⟩
    refine ⟨_, rfl, k4.keeps0, bif_b (fun hh => ⟨_, rfl, _, rfl, ?_, k3.trans k4⟩) (fun hh => wr64 (by omega) ⟨⟨j + 1, by omega, by omega, k3.trans k4, fun x hk hxj => ?_⟩, by first | omega | (dsimp only; omega)⟩)⟩
    · have : (l.any fun x => x.t == t) = true := List.any_eq_true.2 ⟨_, List.getElem_mem hjl, hh⟩
      rw [this]
      exact decide_eq_true (by omega)
    · by_cases e : x = j
      · subst e; exact hh
      · exact hn x hk (by omega)
  · have : (l.any fun x => x.t == t) = false := by
      rw [List.any_eq_false]
      intro x hx
      obtain ⟨k, hk, e⟩ := List.getElem_of_mem hx
      rw [← e, hn k hk (by omega)]
      decide
    rw [this]
    decide
theorem c212 {w : World} {q : Option Addr} {c : Nat} {l : List Stx} (h : StsAt w q l) (hl : l.length ≤ 1000000) (a : Addr) (t : Bool) (ha : w.cell? a = some (.bool t)) : Rets Tryd.prog 212 #[.slice q l.length c, .func (.func 213) #[] #[.pointer (some a)]] w fun v w' =>
    v = .bool (l.any fun x => x.t == t) ∧ Kp none_ w w' := by
  refine ent [_, _] Tryd.func212 ((vcTryd212 _ _ _ _ w _).mpr ?_)
  unfold VCTryd212
  refine (c219 h hl a t ha).mono ?_
  rintro v w1 ⟨i, rfl, e, k1⟩
  exact ⟨_, rfl, k1.keeps0, _, rfl, by rw [e], k1⟩
theorem c202 {w : World} {b : Nat} {p : MM} (h : MRd w b p) (ok : OkP p) (t : Bool) : Rets Tryd.prog 202 #[pt b, .bool t] w fun v w' => v = .bool (someM p t) ∧ Kp none_ w w' := by
  refine ent [_, _] Tryd.func202 ((vcTryd202 _ _ w _).mpr ?_)
  unfold VCTryd202
  simp only [ptr_some, ad_add, Nat.zero_add]
  obtain ⟨q, n, c, e, l, hm, rfl, r⟩ := h.may
  have k1 : Kp none_ w (w.alloc (.cells #[.bool t] 4)) := (Kp.refl none_ w).alloc1 _
  have B1 : Big (w.alloc (.cells #[.bool t] 4)) w.heap.size 4 [.bool t] := Big.new _ _ 4
  have hlen : l.length ≤ 1000000 := by have := ok.len; rw [← hm] at this; simpa using this
  have hc0 : (w.alloc (.cells #[.bool t] 4)).cell? ⟨w.heap.size, 0, none⟩ = some (.bool t) := by rw [B1.cell]; rfl
  have hb : ∀ {w'}, Kp none_ (w.alloc (.cells #[.bool t] 4)) w' → w'.cell? ⟨w.heap.size, 0, none⟩ = some (.bool t) ∧ w'.frozen? ⟨w.heap.size, 0, none⟩ = false := fun k => ⟨k.cell0 hc0, (B1.kp k id).frz 0⟩
  refine ⟨_, _, _, k1.cell0 e, fun _ => ?_⟩
  refine (c212 (r.kp0 k1) hlen _ t hc0).mono ?_
  rintro v w2 ⟨rfl, k2⟩
  obtain ⟨h1, h2⟩ := hb k2
  refine ⟨_, rfl, k2.keeps0, _, h1, h2, fun _ => ⟨_, rfl, ?_, k1.trans k2⟩⟩
  unfold someM
  rw [← hm, List.any_map]
  rfl
theorem c190 {w : World} {b : Nat} {p : MM} (h : MRd w b p) (ok : OkP p) (x y z : Int) : Rets Tryd.prog 190 #[pt b, .int .i64 x, .int .i64 y, .int .i64 z] w fun v w' => v = .bool (x == y && someM p true || x == z && someM p false) ∧ Kp none_ w w' := by
  refine ent [_, _, _, _] Tryd.func190 ((vcTryd190 _ _ _ _ w _).mpr ?_)
  unfold VCTryd190
  have fin : ∀ {w1 : World}, Kp none_ w w1 → (x == y && someM p true) = false → bif x == z then Rets Tryd.prog 202 #[pt b, .bool false] w1 fun v3 w4 => ∃ t5, v3 = .bool t5 ∧ Keeps w1 w4 [] ∧ (∃ v, Ending.returned (.bool t5) = Ending.returned v ∧ v = .bool (x == y && someM p true || x == z && someM p false) ∧ Kp none_ w w4) else (∃ v, Ending.returned (.bool false) = Ending.returned v ∧ v = .bool (x == y && someM p true || x == z && someM p false) ∧ Kp none_ w w1) := fun {w1} k1 e => by
    refine bif_b (fun hz => (c202 (h.kp0 k1) ok false).mono ?_) (fun hz => ⟨_, rfl, by rw [e, hz]; rfl, k1⟩)
    rintro v w2 ⟨rfl, k2⟩
    exact ⟨_, rfl, k2.keeps0, _, rfl, by rw [e, hz]; simp, k1.trans k2⟩
  refine bif_b (fun hy => (c202 h ok true).mono ?_) (fun hy => fin (Kp.refl _ _) (by rw [hy]; rfl))
  rintro v w1 ⟨rfl, k1⟩
  refine ⟨_, rfl, k1.keeps0, bif_b (fun ht => ⟨_, rfl, by rw [hy, ht]; rfl, k1⟩) (fun ht => fin k1 (by rw [hy, ht]; rfl))⟩
end Go.Proofs.YtbpknjldphckgaaDoor

