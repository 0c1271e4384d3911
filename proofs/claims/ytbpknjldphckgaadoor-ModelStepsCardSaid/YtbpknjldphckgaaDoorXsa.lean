/- What the row needs, part 1. -/
import Derived.WalkKit
import Derived.OrdersIn
import Derived.KernelRfl
import Derived.RangeFuncLeaves
import Derived.RangeFuncOwn
import Derived.Lib.AppendStr
/-
A symbolic executor for the model's code: it computes, for a piece of code and a symbolic state, a sufficient
condition; the theorems (in the next text) show that the condition implies the code's weakest precondition.
-/
namespace Go.SX

/-- A symbolic value: a value, or the address of a cell of a block that is known (chunk j, block number b). -/
inductive SV where
  | v (x : Value)
  | p (b j off : Nat)

def SV.val : SV → Value
  | .v x => x
  | .p b _ off => .pointer (some ⟨b, off, none⟩)

/-- A known block: its number, and what some of its cells hold. -/
structure Ch where
  b : Nat
  cells : List (Nat × SV)

structure St where
  env : List (Nat × SV)
  chs : List Ch
  esc : List Nat
  w : World
  /-- the marks of range loops -/
  defs : List Nat := []

def lk : List (Nat × SV) → Nat → Option SV
  | [], _ => none
  | (i, x) :: r, n => cond (Nat.beq i n) (some x) (lk r n)

def upd : List (Nat × SV) → Nat → SV → List (Nat × SV)
  | [], _, _ => []
  | (i, y) :: r, n, x => cond (Nat.beq i n) ((i, x) :: r) ((i, y) :: upd r n x)

def nth {α : Type} : List α → Nat → Option α
  | [], _ => none
  | x :: _, 0 => some x
  | _ :: r, n + 1 => nth r n

def updCh : List Ch → Nat → Nat → SV → List Ch
  | [], _, _, _ => []
  | c :: r, 0, o, x => ⟨c.b, upd c.cells o x⟩ :: r
  | c :: r, n + 1, o, x => c :: updCh r n o x

def look (s : St) : Operand → Option SV
  | .tmp t => lk s.env t
  | .const v => some (.v v)
  | .global g => some (.v (.pointer (some ⟨g, 0, none⟩)))
  | .func f => some (.v (.func (.func f) #[] #[]))

/-! ### Words of the condition: they stay as they are in print -/
def KnownC (w : World) (b : Nat) : List (Nat × Value) → Prop
  | [] => True
  | (o, v) :: r => (w.cell? ⟨b, o, none⟩ = some v ∧ w.frozen? ⟨b, o, none⟩ = false) ∧ KnownC w b r
/-- What the executor knows of the blocks. -/
def Known (w : World) : List (Nat × List (Nat × Value)) → Prop
  | [] => True
  | (b, c) :: r => (b < w.heap.size ∧ KnownC w b c) ∧ Known w r
def knownK (w : World) (l : List (Nat × List (Nat × Value))) (K : Prop) : Prop := match l with | [] => K | x :: r => Known w (x :: r) → K
/-- The blocks are as they were. -/
def Keeps (w w' : World) (bs : List Nat) : Prop := w.heap.size ≤ w'.heap.size ∧ ∀ b ∈ bs, w'.heap[b]? = w.heap[b]?
/-- An integer result, wrapped to its kind. -/
def Wr (k : IntKind) (z : Int) (K : Int → Prop) : Prop := K (k.wrap z)
/-- A pointer that is not nil. -/
def Ptr (q : Option Addr) (K : Addr → Prop) : Prop := match q with | some a => K a | none => False
/-- A cell's address is none of these. -/
def Apart (a : Addr) (b : Nat) (os : List Nat) : Prop := a.block ≠ b ∨ a.off ∉ os
def Runs {α : Type} (P : Program) (m : Sem α) (w : World) (R : α → World → Prop) : Prop := ∃ v w', m.run P w = .ok v w' ∧ R v w'
/-- Two rows of values are one. -/
def SameVals (a b : List Value) : Prop := a = b
def sameK (a b : List Value) (K : Prop) : Prop := match a, b with | [], [] => K | a, b => SameVals a b ∧ K
def cutA (a : Option Addr) (cap l size : Nat) : Option Addr := if cap = l then a else a.map (·.add (l * size))

/-! ### The program's tables, by lists -/
def infoL (P : Program) (t : TypeId) : Option TypeInfo := nth P.types.toList t
def undL (P : Program) (t : TypeId) : Option TypeDesc :=
  match infoL P t with
  | some i => (match i.desc with | .named _ u => (match infoL P u with | some j => some j.desc | none => none) | d => some d)
  | none => none
def funcL (P : Program) (k : FuncId) : Option Func := nth P.funcs.toList k

/-! ### Shapes -/
inductive EK where
  | int (k : IntKind) | bool | str | ptr | slice | map
inductive CTy where
  | int (k : IntKind) | bool | str | ptr | slice | map | raw | agg (l : List IntKind) | row (l : List EK)

def cty : Option TypeDesc → CTy
  | some (.int k) => .int k
  | some .bool => .bool
  | some .string => .str
  | some (.pointer _) => .ptr
  | some (.slice _) => .slice
  | some (.map _ _) => .map
  | _ => .raw

def shapeOf : Value → CTy
  | .int k _ => .int k
  | .bool _ => .bool
  | .string _ => .str
  | .pointer _ => .ptr
  | .slice _ _ _ => .slice
  | .map _ => .map
  | _ => .raw

/-- Integers of these kinds. -/
def exIs : List IntKind → (List Value → Prop) → Prop
  | [], K => K []
  | k :: r, K => ∃ n : Int, exIs r fun vs => K (.int k n :: vs)
def alIs : List IntKind → (List Value → Prop) → Prop
  | [], K => K []
  | k :: r, K => ∀ n : Int, alIs r fun vs => K (.int k n :: vs)
def exE : EK → (Value → Prop) → Prop
  | .int k, K => ∃ n : Int, K (.int k n)
  | .bool, K => ∃ t : Bool, K (.bool t)
  | .str, K => ∃ s : ByteArray, K (.string s)
  | .ptr, K => ∃ q : Option Addr, K (.pointer q)
  | .slice, K => ∃ (a : Option Addr) (n c : Nat), K (.slice a n c)
  | .map, K => ∃ r : Option Nat, K (.map r)
def alE : EK → (Value → Prop) → Prop
  | .int k, K => ∀ n : Int, K (.int k n)
  | .bool, K => ∀ t : Bool, K (.bool t)
  | .str, K => ∀ s : ByteArray, K (.string s)
  | .ptr, K => ∀ q : Option Addr, K (.pointer q)
  | .slice, K => ∀ (a : Option Addr) (n c : Nat), K (.slice a n c)
  | .map, K => ∀ r : Option Nat, K (.map r)
def exEs : List EK → (List Value → Prop) → Prop
  | [], K => K []
  | k :: r, K => exE k fun v => exEs r fun vs => K (v :: vs)
def alEs : List EK → (List Value → Prop) → Prop
  | [], K => K []
  | k :: r, K => alE k fun v => alEs r fun vs => K (v :: vs)
def exC : CTy → (Value → Prop) → Prop
  | .int k, K => ∃ n : Int, K (.int k n)
  | .bool, K => ∃ t : Bool, K (.bool t)
  | .str, K => ∃ s : ByteArray, K (.string s)
  | .ptr, K => ∃ q : Option Addr, K (.pointer q)
  | .slice, K => ∃ (a : Option Addr) (n c : Nat), K (.slice a n c)
  | .map, K => ∃ r : Option Nat, K (.map r)
  | .raw, K => ∃ v : Value, K v
  | .agg l, K => exIs l fun vs => K (.agg vs.toArray)
  | .row l, K => exEs l fun vs => K (.agg vs.toArray)

def alC : CTy → (Value → Prop) → Prop
  | .int k, K => ∀ n : Int, K (.int k n)
  | .bool, K => ∀ t : Bool, K (.bool t)
  | .str, K => ∀ s : ByteArray, K (.string s)
  | .ptr, K => ∀ q : Option Addr, K (.pointer q)
  | .slice, K => ∀ (a : Option Addr) (n c : Nat), K (.slice a n c)
  | .map, K => ∀ r : Option Nat, K (.map r)
  | .raw, K => ∀ v : Value, K v
  | .agg l, K => alIs l fun vs => K (.agg vs.toArray)
  | .row l, K => alEs l fun vs => K (.agg vs.toArray)

def exCs : List CTy → (List Value → Prop) → Prop
  | [], K => K []
  | c :: r, K => exC c fun v => exCs r fun vs => K (v :: vs)
def alCs : List CTy → (List Value → Prop) → Prop
  | [], K => K []
  | c :: r, K => alC c fun v => alCs r fun vs => K (v :: vs)

def sameKind : IntKind → IntKind → Bool
  | .i8, .i8 | .i16, .i16 | .i32, .i32 | .i64, .i64 | .u8, .u8 | .u16, .u16 | .u32, .u32 | .u64, .u64 => true
  | _, _ => false
/-- A function of typed arguments, and its use at values. -/
def FTy (α : Type) : List CTy → Type
  | [] => World → α
  | .int _ :: r => Int → FTy α r
  | .bool :: r => Bool → FTy α r
  | .str :: r => ByteArray → FTy α r
  | .ptr :: r => Option Addr → FTy α r
  | .slice :: r => Option Addr → Nat → Nat → FTy α r
  | .map :: r => Option Nat → FTy α r
  | .raw :: r => Value → FTy α r
  | .agg _ :: r => Value → FTy α r
  | .row _ :: r => Value → FTy α r
def apF {α : Type} (d : α) : (ts : List CTy) → FTy α ts → List Value → World → α
  | [], I, [], w => I w
  | .int k :: r, I, .int k' n :: vs, w => cond (sameKind k k') (apF d r (I n) vs w) d
  | .bool :: r, I, .bool t :: vs, w => apF d r (I t) vs w
  | .str :: r, I, .string s :: vs, w => apF d r (I s) vs w
  | .ptr :: r, I, .pointer q :: vs, w => apF d r (I q) vs w
  | .slice :: r, I, .slice a n c :: vs, w => apF d r (I a n c) vs w
  | .map :: r, I, .map q :: vs, w => apF d r (I q) vs w
  | .raw :: r, I, v :: vs, w => apF d r (I v) vs w
  | _, _, _, _ => d

/-- A type's cells, if they are few. 'true': a struct or an array. -/
def flat (P : Program) : Nat → TypeId → Option (List CTy)
  | 0, _ => none
  | f + 1, t =>
    match undL P t with
    | some (.struct fs) => fs.toList.foldr (fun x acc => match flat P f x.type, acc with | some a, some r => some (a ++ r) | _, _ => none) (some [])
    | some (.array n e) => cond (Nat.ble n 64) (match flat P f e with | some a => some ((List.replicate n a).flatten) | none => none) none
    | d => some [cty d]
def isAggT (P : Program) (t : TypeId) : Bool :=
  match undL P t with
  | some (.struct _) => true
  | some (.array _ _) => true
  | _ => false
/-- There is a value of this type. -/
def exT (P : Program) (t : TypeId) (K : Value → Prop) : Prop :=
  cond (isAggT P t) (match flat P 8 t with | some cs => exCs cs fun vs => K (.agg vs.toArray) | none => ∃ cs : Array Value, K (.agg cs)) (exC (cty (undL P t)) K)
def exTs (P : Program) : List TypeId → (List Value → Prop) → Prop
  | [], K => K []
  | t :: r, K => exT P t fun v => exTs P r fun vs => K (v :: vs)
/-- What a call hands back. -/
def exRes (P : Program) (ts : List TypeId) (K : Value → Prop) : Prop :=
  match ts with
  | [] => K (.tuple #[])
  | [t] => exT P t K
  | ts => exTs P ts fun vs => K (.tuple vs.toArray)
/-- A value of an operation's type: a tuple's parts each by its own. -/
def exOp (P : Program) (t : TypeId) (K : Value → Prop) : Prop :=
  match undL P t with
  | some (.tuple ts) => exTs P ts.toList fun vs => K (.tuple vs.toArray)
  | _ => exT P t K

/-! ### The state's parts -/
def knowns (chs : List Ch) : List (Nat × List (Nat × Value)) := chs.map fun c => (c.b, c.cells.map fun (o, x) => (o, x.val))
def memN (n : Nat) : List Nat → Bool
  | [] => false
  | x :: r => cond (Nat.beq x n) true (memN n r)
/-- Which chunks an address leads to, chunk by chunk. -/
def svJ : SV → List Nat
  | .p _ j _ => [j]
  | .v _ => []
def reachStep (chs : List Ch) (js : List Nat) : List Nat :=
  js ++ js.flatMap fun j => match nth chs j with | some c => c.cells.flatMap fun (_, x) => (svJ x).filter fun i => !memN i js | none => []
def reach (chs : List Ch) : Nat → List Nat → List Nat
  | 0, js => js
  | n + 1, js => reach chs n (reachStep chs js)

/-- The cells of a block that a call may have changed: each is told anew. -/
def reCells (w : World) (b : Nat) : List (Nat × SV) → (List (Nat × SV) → Prop) → Prop
  | [], K => K []
  | (o, .p b' j off) :: r, K => w.cell? ⟨b, o, none⟩ = some (.pointer (some ⟨b', off, none⟩)) ∧ w.frozen? ⟨b, o, none⟩ = false ∧ reCells w b r fun l => K ((o, .p b' j off) :: l)
  | (o, .v x) :: r, K => exC (shapeOf x) fun y => w.cell? ⟨b, o, none⟩ = some y ∧ w.frozen? ⟨b, o, none⟩ = false ∧ reCells w b r fun l => K ((o, .v y) :: l)
def reChs (w : World) (js : List Nat) : Nat → List Ch → (List Ch → Prop) → Prop
  | _, [], K => K []
  | i, c :: r, K => cond (memN i js) (reCells w c.b c.cells fun l => reChs w js (i + 1) r fun cs => K (⟨c.b, l⟩ :: cs)) (reChs w js (i + 1) r fun cs => K (c :: cs))
def keptBs (js : List Nat) : Nat → List Ch → List Nat
  | _, [] => []
  | i, c :: r => cond (memN i js) (keptBs js (i + 1) r) (c.b :: keptBs js (i + 1) r)
/-- Behind a call: the world is w'; the chunks js are told anew, all others are as they were. -/
def behind (s : St) (js : List Nat) (w' : World) (K : St → Prop) : Prop :=
  Keeps s.w w' (keptBs js 0 s.chs) ∧ reChs w' js 0 s.chs fun chs => K { s with chs := chs, w := w' }

/-- A cell's store: apart from all that is known. -/
def apartAll (a : Addr) : List Ch → Prop → Prop
  | [], K => K
  | c :: r, K => Apart a c.b (c.cells.map (·.1)) ∧ apartAll a r K

end Go.SX
namespace Go.SX

/-! ### Operations -/
def bitI (op : BinOp) (k : IntKind) (x y : Int) : Int :=
  let a := BitVec.ofInt k.bits x
  let b := BitVec.ofInt k.bits y
  match op with
  | .and => k.wrap (a &&& b).toNat
  | .or => k.wrap (a ||| b).toNat
  | .xor => k.wrap (a ^^^ b).toNat
  | .andNot => k.wrap (a &&& ~~~b).toNat
  | _ => 0
def andI (k : IntKind) (x y : Int) : Int := bitI .and k x y
def orI (k : IntKind) (x y : Int) : Int := bitI .or k x y
def xorI (k : IntKind) (x y : Int) : Int := bitI .xor k x y
def andNotI (k : IntKind) (x y : Int) : Int := bitI .andNot k x y
def shlI (k : IntKind) (x y : Int) : Int := x * 2 ^ min y.toNat k.bits
def shrI (k : IntKind) (x y : Int) : Int := x.fdiv (2 ^ min y.toNat k.bits)
def byteAt (s : ByteArray) (i : Int) : Int := match s[i.toNat]? with | some b => b.toNat | none => 0
/-- The bytes at an address are a string's. -/
def BytesAt (w : World) (a : Option Addr) (s : ByteArray) : Prop := ∀ i (h : i < s.size), ∃ ad, a = some ad ∧ w.cell? (ad.add i) = some (.int .u8 (s[i].toNat))

def intBin (op : BinOp) (k : IntKind) (a b : Int) (K : Value → Prop) : Prop :=
  match op with
  | .add => Wr k (a + b) fun r => K (.int k r)
  | .sub => Wr k (a - b) fun r => K (.int k r)
  | .mul => Wr k (a * b) fun r => K (.int k r)
  | .quo => b ≠ 0 ∧ Wr k (a.tdiv b) fun r => K (.int k r)
  | .rem => b ≠ 0 ∧ K (.int k (a.tmod b))
  | .and => K (.int k (andI k a b))
  | .or => K (.int k (orI k a b))
  | .xor => K (.int k (xorI k a b))
  | .andNot => K (.int k (andNotI k a b))
  | .eql => K (.bool (a == b))
  | .neq => K (.bool (a != b))
  | .lss => K (.bool (decide (a < b)))
  | .leq => K (.bool (decide (a ≤ b)))
  | .gtr => K (.bool (decide (a > b)))
  | .geq => K (.bool (decide (a ≥ b)))
  | _ => False
def strBin (op : BinOp) (a b : ByteArray) (K : Value → Prop) : Prop :=
  match op with
  | .add => a.size + b.size ≤ 9223372036854775807 ∧ K (.string (a ++ b))
  | .eql => K (.bool (a.toList == b.toList))
  | .neq => K (.bool (!(a.toList == b.toList)))
  | .lss => K (.bool (Op.bytesLess a.toList b.toList))
  | .leq => K (.bool (Op.bytesLess a.toList b.toList || a.toList == b.toList))
  | .gtr => K (.bool (!(Op.bytesLess a.toList b.toList || a.toList == b.toList)))
  | .geq => K (.bool (!(Op.bytesLess a.toList b.toList)))
  | _ => False
def sizeT (P : Program) (t : TypeId) : Nat := match infoL P t with | some i => i.size | none => 0
def hasInfo (P : Program) (t : TypeId) : Bool := (infoL P t).isSome
def dropN {α : Type} : Nat → List α → List α
  | 0, l => l
  | _ + 1, [] => []
  | n + 1, _ :: r => dropN n r
def takeN {α : Type} : Nat → List α → List α
  | 0, _ => []
  | _ + 1, [] => []
  | n + 1, x :: r => x :: takeN n r
def partC (P : Program) (t : TypeId) (cs : List Value) (off : Nat) : Option Value :=
  cond (isAggT P t) (cond (hasInfo P t) (some (Value.agg (takeN (sizeT P t) (dropN off cs)).toArray)) none) (nth cs off)
/-- '==' of values of a plain type. -/
def eq1 (P : Program) (t : TypeId) (x y : Value) : Option Bool :=
  match undL P t, x, y with
  | some .bool, .bool a, .bool b => some (a == b)
  | some (.int _), .int k a, .int k' b => cond (sameKind k k') (some (a == b)) none
  | some .string, .string a, .string b => some (a.toList == b.toList)
  | _, _, _ => none
/-- '==' of structs field by field. -/
def eqFs (P : Program) (xs ys : List Value) : List Field → Option Bool
  | [] => some true
  | [f] => (match nth xs f.offset, nth ys f.offset with | some a, some b => eq1 P f.type a b | _, _ => none)
  | f :: r =>
    match nth xs f.offset, nth ys f.offset with
    | some a, some b => (match eq1 P f.type a b, eqFs P xs ys r with | some e, some e' => some (e && e') | _, _ => none)
    | _, _ => none
/-- A struct type that the model compares field by field. -/
def plainT (P : Program) (t : TypeId) : Bool :=
  !(P.stoodInHeld t) && (match P.underlying t with | some (.struct fs) => fs.toList.all fun f => !(f.name == "_") | _ => false)

def boolBin (op : BinOp) (c : Bool) (K : Value → Prop) : Prop :=
  match op with
  | .eql => K (.bool c)
  | .neq => K (.bool (!c))
  | _ => False
def binC0 (P : Program) (op : BinOp) (t : TypeId) (x y : SV) (K : Value → Prop) : Prop :=
  match x, y with
  | .v (.int k a), .v (.int k' b) =>
    match op with
    | .shl => 0 ≤ b ∧ Wr k (shlI k a b) fun r => K (.int k r)
    | .shr => 0 ≤ b ∧ K (.int k (shrI k a b))
    | _ => cond (sameKind k k') (intBin op k a b K) False
  | .v (.string a), .v (.string b) => strBin op a b K
  | .v (.bool a), .v (.bool b) => match undL P t with | some .bool => boolBin op (a == b) K | _ => False
  | .v (.pointer q), .v (.pointer none) => match undL P t with | some (.pointer _) => boolBin op q.isNone K | _ => False
  | .p _ _ _, .v (.pointer none) => match undL P t with | some (.pointer _) => boolBin op false K | _ => False
  | .v (.slice q _ _), .v (.slice none _ _) => match undL P t with | some (.slice _) => boolBin op q.isNone K | _ => False
  | .v (.map q), .v (.map none) => match undL P t with | some (.map _ _) => boolBin op q.isNone K | _ => False
  | .v (.func _ _ _), .v .nilFunc => match undL P t with | some (.func _ _ _) => boolBin op false K | _ => False
  | .v .nilFunc, .v .nilFunc => match undL P t with | some (.func _ _ _) => boolBin op true K | _ => False
  | .v (.agg xs), .v (.agg ys) =>
    (match undL P t with
     | some (.struct fs) => (match eqFs P xs.toList ys.toList fs.toList with | some e => plainT P t = true ∧ boolBin op e K | none => False)
     | _ => False)
  | _, _ => False

def nilF : SV → Bool
  | .v .nilFunc => true
  | _ => false
/-- A function value, and whether it is nil. -/
def FnVal (v : Value) (K : Bool → Prop) : Prop := match v with | .func _ _ _ => K false | .nilFunc => K true | _ => False
def binC (P : Program) (op : BinOp) (t : TypeId) (x y : SV) (K : Value → Prop) : Prop :=
  match nilF y, x with
  | true, .v v => (match undL P t with | some (.func _ _ _) => FnVal v fun c => boolBin op c K | _ => False)
  | true, .p _ _ _ => False
  | false, x => binC0 P op t x y K

/-- A new block of few cells becomes known. -/
def newCh (s : St) (cells : List SV) (elem : TypeId) (K : SV → St → Prop) : Prop :=
  K (.p s.w.heap.size s.chs.length 0) { s with chs := s.chs ++ [⟨s.w.heap.size, cells.zipIdx.map fun (x, i) => (i, x)⟩], w := s.w.alloc (.cells (cells.map SV.val).toArray elem) }
def newBig (s : St) (cells : Array Value) (elem : TypeId) (K : SV → St → Prop) : Prop :=
  K (.v (.pointer (some ⟨s.w.heap.size, 0, none⟩))) { s with w := s.w.alloc (.cells cells elem) }
def zeroC (P : Program) (t : TypeId) : Array Value := match infoL P t with | some i => (match i.zero with | some z => z.cells | none => #[]) | none => #[]
/-- The same, as it stands in print. -/
def zeroA (P : Program) (t : TypeId) : Array Value := zeroC P t
def hasZero (P : Program) (t : TypeId) : Bool := match infoL P t with | some i => i.zero.isSome | none => false
def few (P : Program) (t : TypeId) : Bool := match infoL P t with | some i => Nat.ble i.size 48 | none => false

def CellsAt (w : World) (a : Addr) : Nat → List Value → Prop
  | _, [] => True
  | i, v :: r => w.cell? (a.add i) = some v ∧ CellsAt w a (i + 1) r
/-- A great value's cells. -/
def CellsOf (w : World) (a : Addr) (n : Nat) (vs : List Value) : Prop := vs.length = n ∧ CellsAt w a 0 vs
def getCells (cells : List (Nat × SV)) : Nat → Nat → Option (List SV)
  | _, 0 => some []
  | off, n + 1 => match lk cells off, getCells cells (off + 1) n with | some x, some r => some (x :: r) | _, _ => none

/-- What a reading operation hands on: the value, and what must stay true of the world for it to be read again. -/
abbrev YK := SV → List Nat → Option (World → Prop) → Prop
def ldRaw (P : Program) (t : TypeId) (ad : Addr) (s : St) (K : YK) : Prop :=
  cond (isAggT P t)
    (match flat P 8 t with
     | some cs => cond (Nat.beq cs.length (sizeT P t) && hasInfo P t) (exCs cs fun vs => CellsAt s.w ad 0 vs ∧ K (.v (.agg vs.toArray)) s.esc (some fun w => CellsAt w ad 0 vs)) False
     | none => cond (hasInfo P t) (∃ vs : List Value, CellsOf s.w ad (sizeT P t) vs ∧ K (.v (.agg vs.toArray)) s.esc (some fun w => CellsOf w ad (sizeT P t) vs)) False)
    (exC (cty (undL P t)) fun v => s.w.cell? ad = some v ∧ K (.v v) s.esc (some fun w => w.cell? ad = some v))
def loadC (P : Program) (t : TypeId) (x : SV) (s : St) (K : YK) : Prop :=
  cond (undL P t).isSome
    (match x with
     | .p b j off =>
       match nth s.chs j with
       | none => False
       | some c =>
         cond (isAggT P t)
           (match cond (hasInfo P t) (getCells c.cells off (sizeT P t)) none with
            | some xs => K (.v (.agg (xs.map SV.val).toArray)) (xs.flatMap svJ ++ s.esc) (some fun w => CellsAt w ⟨b, off, none⟩ 0 (xs.map SV.val))
            | none => ldRaw P t ⟨b, off, none⟩ s K)
           (match lk c.cells off with
            | some x => K x s.esc (some fun w => w.cell? ⟨b, off, none⟩ = some x.val)
            | none => ldRaw P t ⟨b, off, none⟩ s K)
     | .v (.pointer q) => Ptr q fun ad => ldRaw P t ad s K
     | _ => False) False

/-- A value of one cell. -/
def OneC (x : Value) (K : Prop) : Prop := match x with | .agg _ => False | .tuple _ => False | _ => K
def stCells (b j : Nat) : Nat → List SV → List Ch → World → Option (List Ch × World)
  | _, [], chs, w => some (chs, w)
  | off, x :: r, chs, w =>
    match nth chs j with
    | some c => match lk c.cells off with
      | some _ => stCells b j (off + 1) r (updCh chs j off x) (w.setCell ⟨b, off, none⟩ x.val)
      | none => none
    | none => none
def oneCs : List SV → Prop → Prop
  | [], K => K
  | .p _ _ _ :: r, K => oneCs r K
  | .v x :: r, K => OneC x (oneCs r K)
def stRaw (ad : Addr) : Nat → List Value → St → (St → Prop) → Prop
  | _, [], s, K => K s
  | i, v :: r, s, K => (∃ u, s.w.cell? (ad.add i) = some u) ∧ s.w.frozen? (ad.add i) = false ∧ apartAll (ad.add i) s.chs (stRaw ad (i + 1) r { s with w := s.w.setCell (ad.add i) v } K)
def svCells : SV → List SV
  | .v (.agg cs) => cs.toList.map SV.v
  | x => [x]
def storeC (P : Program) (t : TypeId) (x y : SV) (s : St) (K : SV → St → Prop) : Prop :=
  cond (Nat.beq (svCells y).length (sizeT P t) && hasInfo P t)
    (oneCs (svCells y)
      (match x with
       | .p b j off =>
         match stCells b j off (svCells y) s.chs s.w with
         | some (chs, w) => K (.v undef) { s with chs := chs, w := w }
         | none => stRaw ⟨b, off, none⟩ 0 ((svCells y).map SV.val) { s with esc := svJ y ++ s.esc } fun s' => K (.v undef) s'
       | .v (.pointer q) => Ptr q fun ad => stRaw ad 0 ((svCells y).map SV.val) { s with esc := svJ y ++ s.esc } fun s' => K (.v undef) s'
       | _ => False)) False

def asI : SV → Option Int
  | .v (.int _ n) => some n
  | _ => none
/-- A slice expression's bounds, in the order in which they are looked at: each within the one before. -/
def boundC (x : Option SV) (y : Nat) (d : Nat) (K : Nat → Prop) : Prop :=
  match x with
  | none => K d
  | some a => match asI a with | some i => (0 ≤ i ∧ i ≤ y) ∧ K i.toNat | none => False
def optLook (s : St) : Option Operand → Option (Option SV)
  | none => some none
  | some x => match look s x with | some a => some (some a) | none => none
def sliceC (P : Program) (t : TypeId) (x : SV) (lo hi mx : Option SV) (K : SV → Prop) : Prop :=
  match undL P t, x with
  | some (.slice e), .v (.slice a n c) =>
    cond (hasInfo P e)
      (match mx, hi with
       | some _, none => False
       | _, _ => boundC mx c c fun m => boundC hi (match mx with | some _ => m | none => c) n fun h => boundC lo h 0 fun l => K (.v (.slice (cutA a m l (sizeT P e)) (h - l) (m - l)))) False
  | some .string, .v (.string str) => match mx with | some _ => False | none => boundC hi str.size str.size fun h => boundC lo h 0 fun l => K (.v (.string (str.extract l h)))
  | some (.array n e), .p b _ off =>
    cond (hasInfo P e) (match mx with
      | some _ => False
      | none => boundC hi n n fun h => boundC lo h 0 fun l => K (.v (.slice (cutA (some ⟨b, off, none⟩) n l (sizeT P e)) (h - l) (n - l)))) False
  | _, _ => False

def fieldOf (P : Program) (t : TypeId) (f : Nat) : Option Field := match undL P t with | some (.struct fs) => nth fs.toList f | _ => none
def fieldAddrC (P : Program) (t : TypeId) (x : SV) (f : Nat) (K : SV → Prop) : Prop :=
  match fieldOf P t f with
  | none => False
  | some fd => cond (hasInfo P fd.type && Nat.blt 0 (sizeT P fd.type))
    (match x with
     | .p b j off => K (.p b j (off + fd.offset))
     | .v (.pointer q) => Ptr q fun a => K (.v (.pointer (some (a.add fd.offset))))
     | _ => False) False
def constIx : Operand → Option Nat
  | .const (.int _ (.ofNat n)) => some n
  | _ => none
def indexAddrC (P : Program) (t : TypeId) (x ix : SV) (ci : Option Nat) (K : SV → Prop) : Prop :=
  match asI ix with
  | none => False
  | some i =>
    match undL P t, x with
    | some (.slice e), .v (.slice q n _) => cond (hasInfo P e) ((0 ≤ i ∧ i < n) ∧ Ptr q fun a => K (.v (.pointer (some (a.add (i.toNat * sizeT P e)))))) False
    | some (.array n e), .p b j off =>
      cond (hasInfo P e)
        (match ci with
         | some c => cond (Nat.blt c n) (i = c ∧ K (.p b j (off + c * sizeT P e))) False
         | none => (0 ≤ i ∧ i < n) ∧ K (.v (.pointer (some ((⟨b, off, none⟩ : Addr).add (i.toNat * sizeT P e)))))) False
    | some (.array n e), .v (.pointer q) => cond (hasInfo P e) ((0 ≤ i ∧ i < n) ∧ Ptr q fun a => K (.v (.pointer (some (a.add (i.toNat * sizeT P e)))))) False
    | _, _ => False
def indexC (P : Program) (t : TypeId) (x ix : SV) (K : SV → Prop) : Prop :=
  match asI ix with
  | none => False
  | some i =>
    match undL P t, x with
    | some .string, .v (.string str) => (0 ≤ i ∧ i < str.size) ∧ K (.v (.int .u8 (byteAt str i)))
    | some (.array n e), .v (.agg cs) =>
      cond (isAggT P e) False (cond (Nat.beq (sizeT P e) 1 && hasInfo P e && (undL P e).isSome) ((0 ≤ i ∧ i < n) ∧ exC (cty (undL P e)) fun v => nth cs.toList i.toNat = some v ∧ K (.v v)) False)
    | _, _ => False

def setN {α : Type} : List α → Nat → α → List α
  | [], _, _ => []
  | _ :: r, 0, x => x :: r
  | y :: r, n + 1, x => y :: setN r n x
def setNs {α : Type} (l : List α) : Nat → List α → List α
  | _, [] => l
  | o, x :: r => setNs (setN l o x) (o + 1) r
def cellsL : Value → List Value
  | .agg cs => cs.toList
  | v => [v]
def fillC (place : Nat → Option (Nat × Nat)) (cells : List Value) : List (Nat × Value) → Option (List Value)
  | [] => some cells
  | (i, v) :: rest =>
    match place i with
    | none => none
    | some (off, size) =>
      cond (Nat.beq (cellsL v).length size && Nat.ble (off + (cellsL v).length) cells.length)
        (fillC place (setNs cells off (cellsL v)) rest) none
def placeC (P : Program) (fs : List Field) (i : Nat) : Option (Nat × Nat) := match nth fs i with | some f => some (f.offset, sizeT P f.type) | none => none
def buildC (P : Program) (t : TypeId) (parts : List (Nat × Value)) : Option (List Value) :=
  match undL P t with
  | some (.struct fs) => cond (fs.toList.all fun f => hasInfo P f.type) (fillC (placeC P fs.toList) (zeroC P t).toList parts) none
  | some (.array _ e) => cond (hasInfo P e) (fillC (fun i => some (i * sizeT P e, sizeT P e)) (zeroC P t).toList parts) none
  | _ => none
def repL {α : Type} (z : List α) : Nat → List α
  | 0 => []
  | n + 1 => z ++ repL z n
def buildSliceC (P : Program) (t : TypeId) (len : Nat) (parts : List (Nat × Value)) : Option (TypeId × List Value) :=
  match undL P t with
  | some (.slice e) =>
    cond (hasInfo P e && hasZero P e && Nat.ble (len * sizeT P e) 64 && Nat.blt 0 (len * sizeT P e) && Nat.beq (zeroC P e).toList.length (sizeT P e))
      (match fillC (fun i => some (i * sizeT P e, sizeT P e)) (repL (zeroC P e).toList len) parts with | some cs => some (e, cs) | none => none) none
  | _ => none

def Rets (P : Program) (f : FuncId) (args : Array Value) (w : World) (R : Value → World → Prop) : Prop :=
  Calls P f args w fun e w' => ∃ v, e = .returned v ∧ R v w'
def isGo (P : Program) (f : FuncId) : Bool := match funcL P f with | some fn => fn.body.isSome | none => false
/-- A call of a function that has no body: the model's own. -/
def RetsX (P : Program) (f : FuncId) (args : Array Value) (w : World) (R : Value → World → Prop) : Prop :=
  ∃ v w', (callFunc f args).run P w = .ok (.value v) w' ∧ R v w'
/-- A call of a function value. -/
def CallsVal (P : Program) (f : Value) (args : Array Value) (w : World) (R : Value → World → Prop) : Prop :=
  match f with
  | .func (.func k) first cap => isGo P k = true ∧ Rets P k (first ++ args ++ cap) w R
  | .func (.yield l) first _ => ∃ fn tmps assign body, (Instr.yield l (first ++ args)).run P w = .ok (.round l fn tmps assign body) w ∧
      RoundIn Fence.wide 0 P l fn tmps assign body w fun e w' => ∃ v, e = .returned v ∧ R v w'
  | _ => False
def maxI (a b : Int) : Int := if b > a then b else a
def minI (a b : Int) : Int := if b < a then b else a

def rawV (P : Program) (m : Sem Value) (t : TypeId) (s : St) (K : SV → St → Prop) : Prop :=
  Runs P m s.w fun v w' => exOp P t fun y => v = y ∧ behind s [] w' fun s' => K (.v y) s'
def rawU (P : Program) (m : Sem Unit) (s : St) (K : SV → St → Prop) : Prop :=
  Runs P m s.w fun _ w' => behind s [] w' fun s' => K (.v undef) s'

/-- An iterator over a string or a map. -/
def rangeC (P : Program) (t : TypeId) (x : SV) (s : St) (K : SV → St → Prop) : Prop :=
  Runs P (Instr.range t x.val) s.w fun v w' => ∃ q : Option Addr, v = .pointer q ∧ behind s [] w' fun s' => K (.v (.pointer q)) s'
/-- A string's next code point, a map's next entry, or none. -/
def nextC (P : Program) (it : SV) (isS : Bool) (ty t : TypeId) (s : St) (K : SV → St → Prop) : Prop :=
  cond isS (Runs P (Instr.next it.val true ty) s.w fun v w' =>
      (v = .tuple #[.bool false] ∧ behind s [] w' fun s' => K (.v (.tuple #[.bool false])) s') ∨
      (∃ i c : Int, v = .tuple #[.bool true, .int .i64 i, .int .i32 c] ∧ behind s [] w' fun s' => K (.v (.tuple #[.bool true, .int .i64 i, .int .i32 c])) s'))
    (Runs P (Instr.next it.val false ty) s.w fun v w' =>
      (v = .tuple #[.bool false] ∧ behind s [] w' fun s' => K (.v (.tuple #[.bool false])) s') ∨
      (∃ i c : Value, v = .tuple #[.bool true, i, c] ∧ behind s [] w' fun s' => K (.v (.tuple #[.bool true, i, c])) s'))

/-- The key and the value of the entry that came last. -/
def entryC (P : Program) (it : SV) (s : St) (K : SV → St → Prop) : Prop :=
  Runs P (Instr.entry it.val) s.w fun v w' => ∃ i c : Value, v = .tuple #[i, c] ∧ behind s [] w' fun s' => K (.v (.tuple #[i, c])) s'
def builtinY (P : Program) (b : Builtin) (ats : Array TypeId) (args : List SV) (K : SV → Prop) : Prop :=
  match b, args with
  | .len, [.v (.string str)] => match nth ats.toList 0 with | some a => (match undL P a with | some .string => K (.v (.int .i64 str.size)) | _ => False) | none => False
  | .len, [.v (.slice _ n _)] => match nth ats.toList 0 with | some a => (match undL P a with | some (.slice _) => K (.v (.int .i64 n)) | _ => False) | none => False
  | .len, [_] => match nth ats.toList 0 with
    | some a => (match undL P a with
      | some (.array n _) => K (.v (.int .i64 n))
      | _ => False)
    | none => False
  | .min, [.v (.int k a), .v (.int _ b)] => K (.v (.int k (minI a b)))
  | .max, [.v (.int k a), .v (.int _ b)] => K (.v (.int k (maxI a b)))
  | _, _ => False
def builtinE (P : Program) (b : Builtin) (ats : Array TypeId) (t : TypeId) (args : List SV) (s : St) (K : SV → St → Prop) : Prop :=
  match b, args with
  | .len, [x] => rawV P (Builtin.len_ ats t #[x.val]) t s K
  | .append, [x, y] => rawV P (Builtin.append_ ats t #[x.val, y.val]) t s K
  | .copy, [x, y] => rawV P (Builtin.copy_ ats t #[x.val, y.val]) t s K
  | .cap, [x] => rawV P (Builtin.cap_ ats t #[x.val]) t s K
  | .delete, [x, y] => rawV P (Builtin.delete_ ats t #[x.val, y.val]) t s K
  | .min, [x, y, z] => rawV P (Builtin.min_ ats t #[x.val, y.val, z.val]) t s K
  | .max, [x, y, z] => rawV P (Builtin.max_ ats t #[x.val, y.val, z.val]) t s K
  | .clear, [x] => rawV P (Builtin.clear_ ats t #[x.val]) t s K
  | _, _ => False

def svs (s : St) : List Operand → Option (List SV)
  | [] => some []
  | x :: r => match look s x, svs s r with | some a, some l => some (a :: l) | _, _ => none

/-- A function value of which the code doesn't say which function it is. -/
def dynamic : Operand → Bool
  | .tmp _ => true
  | _ => false
def callC (P : Program) (c : Call) (t : TypeId) (s : St) (K : SV → St → Prop) : Prop :=
  match svs s c.args.toList with
  | none => False
  | some args =>
    match c.callee with
    | .builtin b => builtinE P b c.argTypes t args s K
    | .invoke _ _ => False
    | .value f =>
      match dynamic f, look s f with
      | false, some (.v (.func (.func k) first cap)) =>
        cond (isGo P k)
          (match funcL P k with
           | some fn => knownK s.w (knowns s.chs) <| Rets P k (first ++ (args.map SV.val).toArray ++ cap) s.w fun v w' =>
               exRes P fn.resultTypes.toList fun y => v = y ∧ behind s (reach s.chs s.chs.length (args.flatMap svJ ++ s.esc)) w' fun s' => K (.v y) s'
           | none => False)
          (match funcL P k with
           | some fn => knownK s.w (knowns s.chs) <| RetsX P k (first ++ (args.map SV.val).toArray ++ cap) s.w fun v w' =>
               exRes P fn.resultTypes.toList fun y => v = y ∧ behind s (reach s.chs s.chs.length (args.flatMap svJ ++ s.esc)) w' fun s' => K (.v y) s'
           | none => False)
      | true, some (.v fv) => knownK s.w (knowns s.chs) <| CallsVal P fv (args.map SV.val).toArray s.w fun v w' =>
          exOp P t fun y => v = y ∧ behind s (reach s.chs s.chs.length (args.flatMap svJ ++ s.esc)) w' fun s' => K (.v y) s'
      | _, _ => False

/-- Is a 'len' a reading of the world? -/
def lenReads (P : Program) (c : Call) : Bool :=
  match nth c.argTypes.toList 0 with
  | some a => (match undL P a with | some (.map _ _) => true | some (.chan _ _) => true | some (.pointer _) => true | none => true | _ => false)
  | none => true
/-- Operations that leave the world as it is. -/
def isY (P : Program) (o : Oper) : Bool :=
  match o.op with
  | .move _ | .assign _ | .pick _ _ _ | .load _ _ | .nilCheck _ | .binOp _ _ _ _ _ | .unOp _ _ _ | .makeFunc _ _ _ | .slice _ _ _ _ _
  | .fieldAddr _ _ _ | .field _ _ _ | .indexAddr _ _ _ | .index _ _ _ | .extract _ _ => true
  | .convert src dst _ => match undL P src, undL P dst with
    | some _, some (.int _) => true
    | some .string, some .string => true
    | some (.slice e), some .string => (match undL P e with | some (.int .u8) => true | _ => false)
    | _, _ => false
  | .build t _ => few P t && hasZero P t
  | .call c => match c.callee with
    | .builtin .len => !lenReads P c
    | .builtin .min | .builtin .max => Nat.beq c.args.size 2
    | _ => false
  | _ => false

def yC (P : Program) (o : Oper) (s : St) (K : YK) : Prop :=
  match o.op with
  | .move x => match look s x with | some a => K a s.esc none | none => False
  | .assign x => match look s x with | some a => K a s.esc none | none => False
  | .pick c a b => match look s c with
    | some (.v (.bool t)) => cond t (match look s a with | some a => K a s.esc none | none => False) (match look s b with | some a => K a s.esc none | none => False)
    | _ => False
  | .load t a => match look s a with | some x => loadC P t x s K | none => False
  | .nilCheck x => match look s x with
    | some (.p b j off) => K (.p b j off) s.esc none
    | some (.v (.pointer q)) => Ptr q fun a => K (.v (.pointer (some a))) s.esc none
    | some (.v (.func (.func f) fs cp)) => K (.v (.func (.func f) fs cp)) s.esc none
    | some (.v (.func (.yield f) fs cp)) => K (.v (.func (.yield f) fs cp)) s.esc none
    | _ => False
  | .binOp op t x y _ => match look s x, look s y with | some a, some b => binC P op t a b fun v => K (.v v) s.esc none | _, _ => False
  | .unOp op _ x => match op, look s x with
    | .neg, some (.v (.int k n)) => Wr k (0 - n) fun r => K (.v (.int k r)) s.esc none
    | .xor, some (.v (.int k n)) => K (.v (.int k (xorI k (cond k.signed (-1) k.max) n))) s.esc none
    | .not, some (.v (.bool b)) => K (.v (.bool (!b))) s.esc none
    | _, _ => False
  | .convert src dst x => match undL P src, undL P dst, look s x with
    | some _, some (.int k), some (.v (.int _ n)) => Wr k n fun r => K (.v (.int k r)) s.esc none
    | some .string, some .string, some (.v (.string b)) => K (.v (.string b)) s.esc none
    | some (.slice e), some .string, some (.v (.slice a n _)) =>
      (match undL P e with
       | some (.int .u8) => ∃ str : ByteArray, str.size = n ∧ BytesAt s.w a str ∧ K (.v (.string str)) s.esc (some fun w => BytesAt w a str)
       | _ => False)
    | _, _, _ => False
  | .makeFunc fn first cap => match svs s first.toList, svs s cap.toList with
    | some f, some c => K (.v (.func fn (f.map SV.val).toArray (c.map SV.val).toArray)) (f.flatMap svJ ++ c.flatMap svJ ++ s.esc) none
    | _, _ => False
  | .slice t x lo hi mx => match look s x, optLook s lo, optLook s hi, optLook s mx with
    | some x, some lo, some hi, some mx => sliceC P t x lo hi mx fun v => K v (svJ x ++ s.esc) none
    | _, _, _, _ => False
  | .fieldAddr t x f => match look s x with | some x => fieldAddrC P t x f fun v => K v s.esc none | none => False
  | .field t x f => match look s x, fieldOf P t f with
    | some (.v (.agg cs)), some fd => (match partC P fd.type cs.toList fd.offset with | some v => cond (hasInfo P fd.type && (undL P fd.type).isSome) (K (.v v) s.esc none) False | none => False)
    | _, _ => False
  | .indexAddr t x i => match look s x, look s i with | some x, some y => indexAddrC P t x y (constIx i) fun v => K v (svJ x ++ s.esc) none | _, _ => False
  | .index t x i => match look s x, look s i with | some x, some y => indexC P t x y fun v => K v s.esc none | _, _ => False
  | .build t parts => match svs s (parts.toList.map (·.2)) with
    | some vs => (match buildC P t ((parts.toList.map (·.1)).zip (vs.map SV.val)) with | some cs => K (.v (.agg cs.toArray)) (vs.flatMap svJ ++ s.esc) none | none => False)
    | none => False
  | .extract x i => match look s x with | some (.v (.tuple vs)) => (match nth vs.toList i with | some v => K (.v v) s.esc none | none => False) | _ => False
  | .call c => match svs s c.args.toList, c.callee with
    | some args, .builtin b => builtinY P b c.argTypes args fun v => K v s.esc none
    | _, _ => False
  | _ => False

def eC (P : Program) (o : Oper) (s : St) (K : SV → St → Prop) : Prop :=
  match o.op with
  | .alloc e => cond (hasZero P e) (cond (few P e) (newCh s ((zeroC P e).toList.map SV.v) e K) (newBig s (zeroA P e) e K)) False
  | .box e x => match look s x with
    | some y => cond (few P e) (newCh s (svCells y) e K) (match y with | .v z => newBig s z.cells e K | _ => False)
    | none => False
  | .store t a x => match look s a, look s x with
    | some a, some y => cond (few P t) (storeC P t a y s K) (rawU P (Instr.storeAt t a.val y.val) { s with esc := svJ y ++ s.esc } K)
    | _, _ => False
  | .convert src dst x => match look s x with
    | some y => rawV P (convert src dst y.val) o.type s K
    | none => False
  | .makeMap _ none => K (.v (.map (some s.w.heap.size))) { s with w := s.w.alloc (.map #[] 0) }
  | .makeSlice t l c => match look s l, look s c with
    | some l, some c => rawV P (Instr.makeSlice t l.val c.val) o.type s K
    | _, _ => False
  | .build t parts => match svs s (parts.toList.map (·.2)) with
    | some vs => rawV P (Instr.build t ((parts.toList.map (·.1)).zip (vs.map SV.val)).toArray) o.type { s with esc := vs.flatMap svJ ++ s.esc } K
    | none => False
  | .buildSlice t len parts => match svs s (parts.toList.map (·.2)) with
    | some vs => (match buildSliceC P t len ((parts.toList.map (·.1)).zip (vs.map SV.val)) with
      | some (e, cs) => K (.v (.slice (some ⟨s.w.heap.size, 0, none⟩) len len)) { s with esc := vs.flatMap svJ ++ s.esc, w := s.w.alloc (.cells cs.toArray e) }
      | none => rawV P (Instr.buildSlice t len ((parts.toList.map (·.1)).zip (vs.map SV.val)).toArray) o.type { s with esc := vs.flatMap svJ ++ s.esc } K)
    | none => False
  | .lookup t m k ok => match look s m, look s k with | some m, some k => rawV P (Instr.lookup t m.val k.val ok) o.type s K | _, _ => False
  | .mapUpdate t m k x => match look s m, look s k, look s x with | some m, some k, some x => rawU P (Instr.mapUpdate t m.val k.val x.val) s K | _, _, _ => False
  | .range t x => match look s x with | some x => rangeC P t x s K | none => False
  | .next it isS => match look s it with | some x => nextC P x isS o.type o.type s K | none => False
  | .entry it => match look s it with | some x => entryC P x s K | none => False
  | .call c => callC P c o.type s K
  | _ => False

def vcOp (P : Program) (o : Oper) (s : St) (K : SV → St → Prop) : Prop :=
  cond (isY P o) (yC P o s fun x e _ => K x { s with esc := e }) (eC P o s K)

end Go.SX
namespace Go.SX

/-! ### Regions -/
def putE (env : List (Nat × SV)) (d : Option Tmp) (x : SV) : List (Nat × SV) :=
  match d with
  | some d => (d, x) :: env
  | none => env
def putS (s : St) (d : Option Tmp) (x : SV) : St := { s with env := putE s.env d x }
def dstOk (N : Nat) (o : Oper) : Bool := match o.dst with | some d => Nat.blt d N | none => true
/-- The slot that an operation's guard looks at. -/
def gslot (ops : List Oper) (j : Nat) : Option Nat := match nth ops j with | some o => o.dst | none => none
def guardC (ops : List Oper) (o : Oper) (s : St) (run skip : St → Prop) : Prop :=
  match o.guard with
  | none => run s
  | some (j, want) =>
    match gslot ops j with
    | none => False
    | some d =>
      match lk s.env d with
      | some (.v (.bool g)) =>
        cond g (cond want (run { s with env := (d, .v (.bool true)) :: s.env }) (skip { s with env := (d, .v (.bool true)) :: s.env }))
          (cond want (skip { s with env := (d, .v (.bool false)) :: s.env }) (run { s with env := (d, .v (.bool false)) :: s.env }))
      | some (.v (.tuple _)) => skip s
      | _ => False
def plainOp (o : Oper) : Bool := match o.op with | .defer _ => false | .select _ _ => false | .go _ => false | _ => true

def vcOps (P : Program) (N : Nat) (ops : List Oper) : List Oper → St → (St → Prop) → Prop
  | [], s, K => K s
  | o :: r, s, K =>
    cond (dstOk N o && plainOp o)
      (guardC ops o s (fun s => vcOp P o s fun x s' => vcOps P N ops r (putS s' o.dst x) K) (fun s => vcOps P N ops r (putS s o.dst (.v undef)) K)) False

/-! ### A region that draws its order: what leaves the world alone is taken first, then whatever may come -/
def bindsAny (e : Edge) : Bool := match e.ground with | .textOnly _ => false | .gcOnly _ => false | _ => true
def maskOf (o : Oper) : Nat := o.after.toList.foldl (fun m e => cond (bindsAny e) (m ||| 2 ^ e.on) m) 0
def preGo : List Oper → List Nat → List Nat
  | [], acc => acc
  | o :: r, acc => preGo r (acc ++ [o.after.toList.foldl (fun m e => cond (bindsAny e) (m ||| 2 ^ e.on ||| (match nth acc e.on with | some q => q | none => 0)) m) 0])
def preOf (ops : List Oper) : List Nat := preGo ops []
def bitOf (m i : Nat) : Bool := Nat.beq ((m >>> i) % 2) 1
/-- Those that may come now. -/
def rdy : Nat → List Oper → Nat → List Nat
  | _, [], _ => []
  | i, o :: r, done => cond (!bitOf done i && Nat.beq (Nat.land (maskOf o) done) (maskOf o)) (i :: rdy (i + 1) r done) (rdy (i + 1) r done)
def findY (P : Program) (ops : List Oper) : List Nat → Option Nat
  | [] => none
  | i :: r => match nth ops i with | some o => cond (isY P o) (some i) (findY P ops r) | none => findY P ops r
abbrev Pend := List (Nat × (World → Prop))
/-- What was read and need not come before this operation must be there behind it. -/
def stays (pre : Nat) (w : World) : Pend → Prop → Prop
  | [], K => K
  | (i, G) :: r, K => cond (bitOf pre i) (stays pre w r K) (G w ∧ stays pre w r K)
def addP (i : Nat) (G : Option (World → Prop)) (p : Pend) : Pend := match G with | some g => (i, g) :: p | none => p
def allN : List Nat → (Nat → Prop) → Prop
  | [], _ => True
  | [i], K => K i
  | i :: r, K => K i ∧ allN r K
def preAt (pres : List Nat) (i : Nat) : Nat := match nth pres i with | some m => m | none => 0
def vcDraw (P : Program) (N : Nat) (ops : List Oper) (pres : List Nat) : Nat → Nat → Pend → St → (St → Prop) → Prop
  | 0, _, _, _, _ => False
  | f + 1, done, pend, s, K =>
    match rdy 0 ops done with
    | [] => K s
    | i :: rs =>
      match findY P ops (i :: rs) with
      | some y =>
        match nth ops y with
        | some o => guardC ops o s
            (fun s => yC P o s fun x e G => vcDraw P N ops pres f (done ||| 2 ^ y) (addP y G pend) (putS { s with esc := e } o.dst x) K)
            (fun s => vcDraw P N ops pres f (done ||| 2 ^ y) pend (putS s o.dst (.v undef)) K)
        | none => False
      | none =>
        allN (i :: rs) fun i =>
          match nth ops i with
          | some o => guardC ops o s
              (fun s => eC P o s fun x s' => stays (preAt pres i) s'.w pend (vcDraw P N ops pres f (done ||| 2 ^ i) pend (putS s' o.dst x) K))
              (fun s => vcDraw P N ops pres f (done ||| 2 ^ i) pend (putS s o.dst (.v undef)) K)
          | none => False
/-- The temporaries that an operation names: its operands, its guard. -/
def looksC (ops : List Oper) (o : Oper) : List Nat :=
  (o.op.operands.toList.flatMap fun x => match x with | .tmp t => [t] | _ => []) ++
  (match o.guard with | some (g, _) => (match gslot ops g with | some d => [d] | none => []) | none => [])
def edgesOk : Nat → List Oper → Bool
  | _, [] => true
  | i, o :: r => (o.after.toList.all fun e => !bindsAny e || Nat.blt e.on i) && edgesOk (i + 1) r
def ordB (pres : List Nat) (i j : Nat) : Bool := bitOf (preAt pres i) j || bitOf (preAt pres j) i
/-- Operation j writes slot d: whoever looks at d, or writes it, is ordered with it. -/
def slotOk (ops : List Oper) (pres : List Nat) (j d : Nat) : Nat → List Oper → Bool
  | _, [] => true
  | i, o :: r =>
    (Nat.beq i j || (!(memN d (looksC ops o)) || ordB pres i j) && (match o.dst with | some d' => !Nat.beq d' d | none => true)) && slotOk ops pres j d (i + 1) r
def slotsOk (ops : List Oper) (pres : List Nat) : Nat → List Oper → Bool
  | _, [] => true
  | j, o :: r => (match o.dst with | some d => slotOk ops pres j d 0 ops | none => true) && slotsOk ops pres (j + 1) r
def regOk (N : Nat) (ops : List Oper) (pres : List Nat) : Bool :=
  edgesOk 0 ops && slotsOk ops pres 0 ops && ops.all fun o => dstOk N o && plainOp o

/-! ### Code -/
structure LoopAnn where
  /-- the slots that a round hands on, and their shapes -/
  carried : List (Nat × CTy)
  /-- the slots that no round writes -/
  keep : List Nat
  /-- the known cells that a round may change: chunk, cell, shape -/
  cells : List (Nat × Nat × CTy)

def slotVals (env : List (Nat × SV)) : List (Nat × CTy) → Option (List Value)
  | [] => some []
  | (i, _) :: r => match lk env i, slotVals env r with | some x, some l => some (x.val :: l) | _, _ => none
def cellVals (chs : List Ch) : List (Nat × Nat × CTy) → Option (List Value)
  | [] => some []
  | (j, o, _) :: r =>
    match nth chs j with
    | some c => (match lk c.cells o, cellVals chs r with | some x, some l => some (x.val :: l) | _, _ => none)
    | none => none
def keepEnv (env : List (Nat × SV)) : List Nat → List (Nat × SV)
  | [] => []
  | i :: r => match lk env i with | some x => (i, x) :: keepEnv env r | none => keepEnv env r
def setCells : List Ch → List (Nat × Nat × CTy) → List Value → List Ch
  | chs, (j, o, _) :: r, v :: vs => setCells (updCh chs j o (.v v)) r vs
  | chs, _, _ => chs
def isCarried (cells : List (Nat × Nat × CTy)) (j o : Nat) : Bool :=
  match cells with
  | [] => false
  | (j', o', _) :: r => (Nat.beq j' j && Nat.beq o' o) || isCarried r j o
/-- The values of the cells that are not carried. -/
def restC (cells : List (Nat × Nat × CTy)) (j : Nat) : List (Nat × SV) → List Value
  | [] => []
  | (o, x) :: r => cond (isCarried cells j o) (restC cells j r) (x.val :: restC cells j r)
def restVals (cells : List (Nat × Nat × CTy)) : Nat → Nat → List Ch → List Value
  | 0, _, _ => []
  | _, _, [] => []
  | n + 1, j, c :: r => restC cells j c.cells ++ restVals cells n (j + 1) r
/-- Slots that a piece of code writes. -/
def writesOps (n : Nat) : List Oper → Bool
  | [] => false
  | o :: r => (match o.dst with | some d => Nat.beq d n | none => false) || writesOps n r
def writes (n : Nat) : Code → Bool
  | .region _ ops _ => writesOps n ops.toList
  | .seq a b => writes n a || writes n b
  | .cond _ a b => writes n a || writes n b
  | .block _ a => writes n a
  | .loop a => writes n a
  | .rangeFunc _ ps a b => memN n ps.toList || writes n a || writes n b
  | .scope a => writes n a
  | _ => false
def firstReg : Code → Nat
  | .region id _ _ => id
  | .seq a _ => firstReg a
  | .block _ a => firstReg a
  | .loop a => firstReg a
  | .cond _ a _ => firstReg a
  | .scope a => firstReg a
  | _ => 0
def annAt (ann : List (Nat × LoopAnn)) (id : Nat) : LoopAnn :=
  match ann with
  | [] => ⟨[], [], []⟩
  | (i, a) :: r => cond (Nat.beq i id) a (annAt r id)

def defsK (a b : List Nat) (K : Prop) : Prop := match a, b with | [], [] => K | a, b => a = b ∧ K
def vcLoop (A : LoopAnn) (body : Code) (vc : (Exit → St → Prop) → St → Prop) (K : Exit → St → Prop) (s : St) : Prop :=
  let tys := A.carried.map (·.2) ++ A.cells.map (·.2.2)
  match slotVals s.env A.carried, cellVals s.chs A.cells with
  | some vs0, some cs0 =>
    cond (A.keep.all fun i => !writes i body)
      (∃ (I : FTy Prop tys) (m : FTy Nat tys), apF False tys I (vs0 ++ cs0) s.w ∧
        alCs (A.carried.map (·.2)) fun vs => alCs (A.cells.map (·.2.2)) fun cs => ∀ w : World,
          apF False tys I (vs ++ cs) w → (knownK w (knowns (setCells s.chs A.cells cs)) <|
          vc (fun e s' =>
              match e with
              | .normal =>
                (match slotVals s'.env A.carried, cellVals s'.chs A.cells with
                 | some vs', some cs' => defsK s'.defs s.defs <| sameK (restVals A.cells s.chs.length 0 s'.chs) (restVals A.cells s.chs.length 0 s.chs) <|
                     apF False tys I (vs' ++ cs') s'.w ∧ apF 0 tys m (vs' ++ cs') s'.w < apF 0 tys m (vs ++ cs) w
                 | _, _ => False)
              | e => K e s')
            { env := (A.carried.map (·.1)).zip (vs.map SV.v) ++ keepEnv s.env A.keep, chs := setCells s.chs A.cells cs, esc := s.esc, w := w, defs := s.defs })) False
  | _, _ => False

def Rel (N : Nat) (D : List Deferred) (s : St) (a : Act) : Prop :=
  a.tmps.size = N ∧ a.defers = D ∧ ∀ i x, lk s.env i = some x → a.tmps.getD i undef = x.val
structure Sat (s : St) : Prop where
  cell : ∀ j c, nth s.chs j = some c → ∀ o x, lk c.cells o = some x → s.w.cell? ⟨c.b, o, none⟩ = some x.val ∧ s.w.frozen? ⟨c.b, o, none⟩ = false
  keys : ∀ j c, nth s.chs j = some c → (c.cells.map (·.1)).Nodup
  lt : ∀ j c, nth s.chs j = some c → c.b < s.w.heap.size
  apart : ∀ i j c d, nth s.chs i = some c → nth s.chs j = some d → i ≠ j → c.b ≠ d.b
  wfE : ∀ i b j o, lk s.env i = some (.p b j o) → ∃ c, nth s.chs j = some c ∧ c.b = b
  wfC : ∀ k c o b j o', nth s.chs k = some c → lk c.cells o = some (.p b j o') → ∃ d, nth s.chs j = some d ∧ d.b = b
/-- The fence: everything, in a round of loop r or in none. -/
def fenceR (r : Option Nat) : Fence := { Fence.wide with round := r }
/-- Where the condition holds: some state that fits. -/
def Evo (c c' : List Ch) : Prop := ∀ j x, nth c j = some x → ∃ y, nth c' j = some y ∧ y.b = x.b ∧ y.cells.map (·.1) = x.cells.map (·.1)
/-- A later state and act: the known blocks are known, the slots but those of W hold what they held. -/
def Fr (W : Nat → Prop) (a0 a : Act) : Prop := ∀ i, ¬ W i → a.tmps.getD i undef = a0.tmps.getD i undef
def Ev (W : Nat → Prop) (s0 : St) (a0 : Act) (s : St) (a : Act) : Prop := Evo s0.chs s.chs ∧ Fr W a0 a
def markB (b : Nat) : Deferred := { target := .collected b, args := #[] }
def marks (l : List Nat) : List Deferred := l.map markB
def QK (N : Nat) (W : Nat → Prop) (s0 : St) (a0 : Act) (K : Exit → St → Prop) : Exit → Act → World → Prop :=
  fun e a w => ∃ s, Ev W s0 a0 s a ∧ Rel N (marks s.defs) s a ∧ Sat s ∧ s.w = w ∧ K e s

/-- Where a piece of code may leave to, and whether it may return. -/
def exitsOf : Code → List Nat
  | .exit id => [id]
  | .seq a b => exitsOf a ++ exitsOf b
  | .cond _ a b => exitsOf a ++ exitsOf b
  | .block id a => (exitsOf a).filter fun i => !Nat.beq i id
  | .loop a => exitsOf a
  | .scope a => exitsOf a
  | .rangeFunc _ _ a b => exitsOf a ++ exitsOf b
  | _ => []
def hasRet : Code → Bool
  | .ret => true
  | .seq a b => hasRet a || hasRet b
  | .cond _ a b => hasRet a || hasRet b
  | .block _ a => hasRet a
  | .loop a => hasRet a
  | .scope a => hasRet a
  | .rangeFunc _ _ a b => hasRet a || hasRet b
  | _ => false
def dedup : List Nat → List Nat
  | [] => []
  | x :: r => cond (memN x r) (dedup r) (x :: dedup r)
def nodupN : List Nat → Bool
  | [] => true
  | x :: r => !memN x r && nodupN r
def sameNs : List Nat → List Nat → Bool
  | [], [] => true
  | x :: r, y :: t => Nat.beq x y && sameNs r t
  | _, _ => false
/-- How a round ends: the record, and what yield hands back. -/
def roundEnd (l : Nat) (rec : LoopState → Option Code → Obj) (R : Value → World → Prop) : Exit → St → Prop := fun e s =>
  knownK s.w (knowns s.chs) <|
    match e with
    | .normal => s.w.heap[l]? = some (rec .busy none) ∧ R (.bool true) (s.w.putObj l (rec .ready none))
    | .ret => s.w.heap[l]? = some (rec .busy none) ∧ R (.bool false) (s.w.putObj l (rec .done (some .ret)))
    | .exit id => s.w.heap[l]? = some (rec .busy none) ∧ R (.bool false) (s.w.putObj l (rec .done (some (.exit id))))
    | _ => False
/-- How the statement is left: at the iterator's end, by the pending jump. -/
def rangeEnds (l : Nat) (rec : LoopState → Option Code → Obj) (s : Option Code → St) (w : World) (K : Exit → St → Prop) : List Nat → Bool → Prop
  | [], false => w.heap[l]? = some (rec .ready none) ∧ K .normal (s none)
  | [], true => (w.heap[l]? = some (rec .ready none) ∧ K .normal (s none)) ∨ (w.heap[l]? = some (rec .done (some .ret)) ∧ K .ret (s (some .ret)))
  | id :: r, t => (w.heap[l]? = some (rec .done (some (.exit id))) ∧ K (.exit id) (s (some (.exit id)))) ∨ rangeEnds l rec s w K r t
/-- The one call of a function value that is ranged over. -/
def RangeVal (P : Program) (fv y : Value) (w : World) (R : World → Prop) : Prop :=
  match fv with
  | .func (.func k) first cap => isGo P k = true ∧ Rets P k (first ++ #[y] ++ cap) w fun _ w' => R w'
  | _ => False
def joinAt (ann : List (Nat × LoopAnn)) (id : Nat) : Option LoopAnn :=
  match ann with
  | [] => none
  | (i, a) :: r => cond (Nat.beq i (id + 1000000)) (some a) (joinAt r id)
/-- All ways through a piece of code come together behind it. -/
def vcJoin (A : LoopAnn) (a : Code) (vcA vcB : (Exit → St → Prop) → St → Prop) (K : Exit → St → Prop) (s : St) : Prop :=
  let tys := A.carried.map (·.2) ++ A.cells.map (·.2.2)
  match cellVals s.chs A.cells with
  | some _ =>
    cond (A.keep.all fun i => !writes i a)
      (∃ I : FTy Prop tys,
        (alCs (A.carried.map (·.2)) fun vs => alCs (A.cells.map (·.2.2)) fun cs => ∀ w : World,
          apF False tys I (vs ++ cs) w → (knownK w (knowns (setCells s.chs A.cells cs)) <|
            vcB K { env := (A.carried.map (·.1)).zip (vs.map SV.v) ++ keepEnv s.env A.keep, chs := setCells s.chs A.cells cs, esc := s.esc, w := w, defs := s.defs })) ∧
        vcA (fun e s' => match e with
          | .normal =>
            (match slotVals s'.env A.carried, cellVals s'.chs A.cells with
             | some vs', some cs' => defsK s'.defs s.defs <| sameK (restVals A.cells s.chs.length 0 s'.chs) (restVals A.cells s.chs.length 0 s.chs) <| apF False tys I (vs' ++ cs') s'.w
             | _, _ => False)
          | e => K e s') s) False
  | none => False
def vcRange (P : Program) (N : Nat) (r : Option Nat) (A : LoopAnn) (g : Operand) (ps : List Nat) (exits : List Nat) (ret : Bool) (vcA vcB : Nat → (Exit → St → Prop) → St → Prop) (K : Exit → St → Prop) (s : St) : Prop :=
  match r, look s g with
  | none, some (.v fv) =>
    cond (sameNs (A.carried.map (·.1)) ps && nodupN ps && ps.all (fun i => Nat.blt i N) && (cellVals s.chs A.cells).isSome)
      (knownK s.w (knowns s.chs) <| ∀ rec : LoopState → Option Code → Obj, (∀ a b, (rec a b).isCells = false) →
        (alCs (A.carried.map (·.2)) fun vs => alCs (A.cells.map (·.2.2)) fun cs => ∀ (w : World) (R : Value → World → Prop), w.heap[s.w.heap.size + 1]? = some (rec .ready none) → Known w (knowns (setCells s.chs A.cells cs)) →
          vcA (s.w.heap.size + 1) (fun e s' => match e with
            | .normal => s'.w.heap[s.w.heap.size + 1]? = some (rec .ready none) ∧ vcB (s.w.heap.size + 1) (roundEnd (s.w.heap.size + 1) rec R) { s' with w := s'.w.putObj (s.w.heap.size + 1) (rec .busy none) }
            | _ => False)
            { env := ps.zip (vs.map SV.v) ++ s.env, chs := setCells s.chs A.cells cs, esc := s.esc, w := w, defs := [] } →
          CallsVal P (.func (.yield (s.w.heap.size + 1)) #[] #[]) vs.toArray w R) →
        RangeVal P fv (.func (.yield (s.w.heap.size + 1)) #[] #[]) ((s.w.alloc (.deferred (some []))).alloc (rec .ready none)) fun w2 =>
          exCs (A.cells.map (·.2.2)) fun cs => Known w2 (knowns (setCells s.chs A.cells cs)) ∧
            rangeEnds (s.w.heap.size + 1) rec (fun p => { s with chs := setCells s.chs A.cells cs, w := w2.putObj (s.w.heap.size + 1) (rec .exhausted p), defs := s.w.heap.size :: s.defs }) w2 K (dedup exits) ret) False
  | _, _ => False
def vcCode (P : Program) (N : Nat) (r : Option Nat) (ann : List (Nat × LoopAnn)) : Code → (Exit → St → Prop) → St → Prop
  | .skip, K, s => K .normal s
  | .label _, K, s => K .normal s
  | .exit id, K, s => K (.exit id) s
  | .ret, K, s => K .ret s
  | .seq a b, K, s =>
    match joinAt ann (firstReg b) with
    | some A => vcJoin A a (vcCode P N r ann a) (vcCode P N r ann b) K s
    | none => vcCode P N r ann a (fun e s' => match e with | .normal => vcCode P N r ann b K s' | e => K e s') s
  | .cond c x y, K, s =>
    match look s c with
    | some (.v (.bool t)) => cond t (vcCode P N r ann x K s) (vcCode P N r ann y K s)
    | _ => False
  | .block id c, K, s => vcCode P N r ann c (fun e s' => match e with | .exit i => cond (Nat.beq i id) (K .normal s') (K (.exit i) s') | e => K e s') s
  | .loop body, K, s => vcLoop (annAt ann (firstReg body)) body (vcCode P N r ann body) K s
  | .region _ ops false, K, s => vcOps P N ops.toList ops.toList s fun s' => K .normal { s' with defs := s.defs }
  | .region _ ops true, K, s =>
    cond (regOk N ops.toList (preOf ops.toList))
      (vcDraw P N ops.toList (preOf ops.toList) (ops.toList.length + 1) 0 [] { s with w := s.w.drew } fun s' => K .normal { s' with defs := s.defs }) False
  | .rangeFunc g ps assign body, K, s => vcRange P N r (annAt ann (firstReg body)) g ps.toList (exitsOf body) (hasRet body) (fun l => vcCode P N (some l) ann assign) (fun l => vcCode P N (some l) ann body) K s
  | .scope c, K, s => vcCode P N r ann c (fun e s' => match e with | .goto _ => False | e => K e s') s
  | _, _, _ => False

/-- The results, one by one. -/
def retC (P : Program) : List ResultVar → List Value → St → (Value → Prop) → Prop
  | [], [v], _, R => R v
  | [], acc, _, R => R (.tuple acc.toArray)
  | .tmp t :: r, acc, s, R => (match lk s.env t with | some x => retC P r (acc ++ [x.val]) s R | none => False)
  | .cell a t :: r, acc, s, R => (match lk s.env a with | some x => loadC P t x s fun y _ _ => retC P r (acc ++ [y.val]) s R | none => False)
/-- The marks are come to, one by one. -/
def endD : List Nat → World → (World → Prop) → Prop
  | [], w, K => K w
  | h :: r, w, K => w.heap[h]? = some (.deferred (some [])) ∧ endD r (w.putObj h (.deferred none)) K
def finalK (P : Program) (rs : List ResultVar) (R : Ending → World → Prop) : Exit → St → Prop :=
  fun e s => match e with
  | .normal | .ret => knownK s.w (knowns s.chs) <| endD s.defs s.w fun w' => retC P rs [] { s with w := w' } fun v => R (.returned v) w'
  | _ => False
def vcFn (P : Program) (ann : List (Nat × LoopAnn)) (fn : Func) (args : List SV) (chs : List Ch) (w : World) (R : Ending → World → Prop) : Prop :=
  match fn.body with
  | some c => cond (Nat.ble args.length fn.ntmps) (vcCode P fn.ntmps none ann c (finalK P fn.results.toList R) ⟨args.zipIdx.map fun (x, i) => (i, x), chs, [], w, []⟩) False
  | none => False

end Go.SX

namespace Go.SX
open Go

/-! ### Lists and tables -/
theorem nth_eq {α : Type} (l : List α) (n : Nat) : nth l n = l[n]? := by
  induction l generalizing n with
  | nil => cases n <;> rfl
  | cons x r ih => cases n with
    | zero => rfl
    | succ n => simpa [nth] using ih n
theorem infoL_some {P : Program} {t : TypeId} {i : TypeInfo} (h : infoL P t = some i) : P.info? t = some i := by
  unfold infoL at h
  rw [nth_eq] at h
  have h' : P.types[t]? = some i := by simpa using h
  have hlt : t < P.types.size := (Array.getElem?_eq_some_iff.1 h').1
  unfold Tables.info?
  rw [if_pos hlt, h']
theorem undL_some {P : Program} {t : TypeId} {d : TypeDesc} (h : undL P t = some d) : P.underlying t = some d := by
  unfold undL at h
  unfold Program.underlying
  cases hi : infoL P t with
  | none => rw [hi] at h; cases h
  | some i =>
    rw [hi] at h
    rw [infoL_some hi]
    cases i with
    | mk d0 _ _ _ _ _ _ _ _ _ =>
      cases d0 <;> try (simpa using h)
      rename_i n u
      simp only at h ⊢
      cases hu : infoL P u with
      | none => rw [hu] at h; cases h
      | some j => rw [hu] at h; rw [infoL_some hu]; simpa using h
theorem funcL_eq (P : Program) (k : FuncId) : funcL P k = P.funcs[k]? := by
  unfold funcL; rw [nth_eq]; simp
theorem hasInfo_some {P : Program} {t : TypeId} (h : hasInfo P t = true) : ∃ i, infoL P t = some i ∧ P.info? t = some i ∧ sizeT P t = i.size := by
  unfold hasInfo at h
  obtain ⟨i, hi⟩ := Option.isSome_iff_exists.1 h
  exact ⟨i, hi, infoL_some hi, by simp [sizeT, hi]⟩
theorem run_sizeT {P : Program} {t : TypeId} (h : hasInfo P t = true) (w : World) : (sizeOf t).run P w = .ok (sizeT P t) w := by
  obtain ⟨i, _, hi, hs⟩ := hasInfo_some h
  simp [sizeOf, typeInfo, hi, hs]
theorem run_und {P : Program} {t : TypeId} {d : TypeDesc} (h : undL P t = some d) (w : World) : (underlying t).run P w = .ok d w := by
  simp [underlying, undL_some h]
theorem run_isAgg {P : Program} {t : TypeId} (h : (undL P t).isSome = true) (w : World) : (isAgg t).run P w = .ok (isAggT P t) w := by
  obtain ⟨d, hd⟩ := Option.isSome_iff_exists.1 h
  unfold isAgg isAggT
  rw [Sem.run_bind, run_und hd, hd]
  cases d <;> rfl
theorem hasZero_some {P : Program} {t : TypeId} (h : hasZero P t = true) : ∃ i z, infoL P t = some i ∧ P.info? t = some i ∧ i.zero = some z ∧ zeroC P t = z.cells := by
  unfold hasZero at h
  cases hi : infoL P t with
  | none => rw [hi] at h; cases h
  | some i =>
    rw [hi] at h
    obtain ⟨z, hz⟩ := Option.isSome_iff_exists.1 h
    exact ⟨i, z, rfl, infoL_some hi, hz, by simp [zeroC, hi, hz]⟩

theorem cond_true' {c : Bool} {A B : Prop} (h : cond c A B) : (c = true ∧ A) ∨ (c = false ∧ B) := by
  cases c
  · exact .inr ⟨rfl, h⟩
  · exact .inl ⟨rfl, h⟩
theorem cond_ok {c : Bool} {A : Prop} (h : cond c A False) : c = true ∧ A := by
  cases c
  · exact h.elim
  · exact ⟨rfl, h⟩
theorem natBeq {a b : Nat} (h : Nat.beq a b = true) : a = b := Nat.eq_of_beq_eq_true h
theorem natBeq_false {a b : Nat} (h : Nat.beq a b = false) : a ≠ b := Nat.ne_of_beq_eq_false h

theorem lk_cons (i : Nat) (x : SV) (r : List (Nat × SV)) (n : Nat) : lk ((i, x) :: r) n = if i = n then some x else lk r n := by
  show cond (Nat.beq i n) (some x) (lk r n) = _
  cases h : Nat.beq i n with
  | true => simp [natBeq h]
  | false => simp [natBeq_false h]
theorem lk_upd (l : List (Nat × SV)) (i n : Nat) (x : SV) (h : (lk l i).isSome = true) : lk (upd l i x) n = if i = n then some x else lk l n := by
  induction l with
  | nil => simp [lk] at h
  | cons a r ih =>
    obtain ⟨j, y⟩ := a
    rw [lk_cons] at h
    unfold upd
    cases hb : Nat.beq j i with
    | true =>
      have := natBeq hb
      subst this
      simp only [cond_true, lk_cons]
      by_cases hn : j = n <;> simp [hn]
    | false =>
      have hne := natBeq_false hb
      simp only [hne, if_false] at h
      simp only [cond_false, lk_cons, ih h]
      by_cases hn : j = n
      · have : i ≠ n := fun e => hne (by rw [hn, e])
        simp [hn, this]
      · simp [hn]
theorem nth_updCh (cs : List Ch) (j o : Nat) (x : SV) (k : Nat) : nth (updCh cs j o x) k = if k = j then (nth cs k).map (fun c => ⟨c.b, upd c.cells o x⟩) else nth cs k := by
  induction cs generalizing j k with
  | nil => cases k <;> simp [updCh, nth]
  | cons c r ih =>
    cases j with
    | zero => cases k <;> simp [updCh, nth]
    | succ j => cases k with
      | zero => simp [updCh, nth]
      | succ k => simp [updCh, nth, ih]
theorem nth_append {α : Type} (l m : List α) (k : Nat) : nth (l ++ m) k = if k < l.length then nth l k else nth m (k - l.length) := by
  simp only [nth_eq, List.getElem?_append]
theorem nth_lt {α : Type} {l : List α} {k : Nat} {x : α} (h : nth l k = some x) : k < l.length := by
  rw [nth_eq] at h
  exact (List.getElem?_eq_some_iff.1 h).1

theorem dropN_eq {α : Type} (n : Nat) (l : List α) : dropN n l = l.drop n := by
  induction l generalizing n with
  | nil => cases n <;> rfl
  | cons x r ih => cases n with
    | zero => rfl
    | succ n => simpa [dropN] using ih n
theorem takeN_eq {α : Type} (n : Nat) (l : List α) : takeN n l = l.take n := by
  induction l generalizing n with
  | nil => cases n <;> rfl
  | cons x r ih => cases n with
    | zero => rfl
    | succ n => simpa [takeN] using ih n

/-! ### Typed values -/
theorem exIs_ex : ∀ {l : List IntKind} {K : List Value → Prop}, exIs l K → ∃ vs, K vs
  | [], K, h => ⟨[], h⟩
  | k :: r, K, ⟨n, h⟩ => by
    obtain ⟨vs, h⟩ := exIs_ex h
    exact ⟨_, h⟩
theorem exE_ex {c : EK} {K : Value → Prop} (h : exE c K) : ∃ v, K v := by
  cases c <;> simp only [exE] at h
  all_goals (first | (obtain ⟨a, n, c, h⟩ := h; exact ⟨_, h⟩) | (obtain ⟨x, h⟩ := h; exact ⟨_, h⟩))
theorem exEs_ex : ∀ {l : List EK} {K : List Value → Prop}, exEs l K → ∃ vs, K vs
  | [], K, h => ⟨[], h⟩
  | k :: r, K, h => by
    obtain ⟨v, h⟩ := exE_ex h
    obtain ⟨vs, h⟩ := exEs_ex h
    exact ⟨_, h⟩
theorem exC_ex {c : CTy} {K : Value → Prop} (h : exC c K) : ∃ v, K v := by
  cases c <;> simp only [exC] at h
  all_goals (first | (obtain ⟨vs, h⟩ := exIs_ex h; exact ⟨_, h⟩) | (obtain ⟨vs, h⟩ := exEs_ex h; exact ⟨_, h⟩) | (obtain ⟨x, h⟩ := h; exact ⟨_, h⟩) | (obtain ⟨a, n, c, h⟩ := h; exact ⟨_, h⟩))
theorem exCs_ex {cs : List CTy} {K : List Value → Prop} (h : exCs cs K) : ∃ vs, vs.length = cs.length ∧ K vs := by
  induction cs generalizing K with
  | nil => exact ⟨[], rfl, h⟩
  | cons c r ih =>
    obtain ⟨v, h⟩ := exC_ex h
    obtain ⟨vs, hl, h⟩ := ih h
    exact ⟨v :: vs, by simp [hl], h⟩
theorem exT_ex {P : Program} {t : TypeId} {K : Value → Prop} (h : exT P t K) : ∃ v, K v := by
  unfold exT at h
  rcases cond_true' h with ⟨_, h⟩ | ⟨_, h⟩
  · cases hf : flat P 8 t with
    | none => rw [hf] at h; obtain ⟨cs, h⟩ := h; exact ⟨_, h⟩
    | some cs => rw [hf] at h; obtain ⟨vs, _, h⟩ := exCs_ex h; exact ⟨_, h⟩
  · exact exC_ex h
theorem exTs_ex {P : Program} {ts : List TypeId} {K : List Value → Prop} (h : exTs P ts K) : ∃ vs, K vs := by
  induction ts generalizing K with
  | nil => exact ⟨[], h⟩
  | cons c r ih =>
    obtain ⟨v, h⟩ := exT_ex h
    obtain ⟨vs, h⟩ := ih h
    exact ⟨v :: vs, h⟩
theorem exRes_ex {P : Program} {ts : List TypeId} {K : Value → Prop} (h : exRes P ts K) : ∃ v, K v := by
  unfold exRes at h
  split at h
  · exact ⟨_, h⟩
  · exact exT_ex h
  · obtain ⟨vs, h⟩ := exTs_ex h; exact ⟨_, h⟩
theorem exOp_ex {P : Program} {t : TypeId} {K : Value → Prop} (h : exOp P t K) : ∃ v, K v := by
  unfold exOp at h
  split at h
  · obtain ⟨vs, h⟩ := exTs_ex h; exact ⟨_, h⟩
  · exact exT_ex h

/-! ### Operands -/
def Agrees (s : St) (ρ : Operand → Value) (xs : List Operand) : Prop := ∀ x ∈ xs, ∀ y, look s x = some y → ρ x = y.val
theorem svs_vals {s : St} {ρ : Operand → Value} {xs : List Operand} {ys : List SV} (ha : Agrees s ρ xs) (h : svs s xs = some ys) : xs.map ρ = ys.map SV.val := by
  induction xs generalizing ys with
  | nil => simp only [svs, Option.some.injEq] at h; subst h; rfl
  | cons x r ih =>
    unfold svs at h
    split at h
    · rename_i a l ha' hl
      simp only [Option.some.injEq] at h
      subst h
      rw [List.map_cons, List.map_cons, ha x (by simp) a ha', ih (fun z hz => ha z (by simp [hz])) hl]
    · cases h
def wfV (chs : List Ch) (x : SV) : Prop := ∀ b j o, x = .p b j o → ∃ c, nth chs j = some c ∧ c.b = b
theorem wfV_v (chs : List Ch) (x : Value) : wfV chs (.v x) := fun _ _ _ h => by cases h
theorem look_wf {s : St} (hs : Sat s) {x : Operand} {y : SV} (h : look s x = some y) : wfV s.chs y := by
  intro b j o hy
  subst hy
  cases x with
  | tmp t => exact hs.wfE t b j o h
  | const v => simp [look] at h
  | global g => simp [look] at h
  | func f => simp [look] at h
def GP (G : Option (World → Prop)) (w : World) : Prop := match G with | none => True | some g => g w

theorem lk_mem {l : List (Nat × SV)} {o : Nat} {x : SV} (hn : (l.map (·.1)).Nodup) : lk l o = some x ↔ (o, x) ∈ l := by
  induction l with
  | nil => simp [lk]
  | cons a r ih =>
    obtain ⟨i, y⟩ := a
    rw [List.map_cons, List.nodup_cons] at hn
    rw [lk_cons]
    by_cases h : i = o
    · subst h
      simp only [if_true, Option.some.injEq, List.mem_cons, Prod.mk.injEq, true_and]
      constructor
      · intro e; exact .inl e.symm
      · rintro (e | e)
        · exact e.symm
        · exact absurd (List.mem_map.2 ⟨_, e, rfl⟩) hn.1
    · simp only [h, if_false, ih hn.2, List.mem_cons, Prod.mk.injEq]
      constructor
      · exact .inr
      · rintro (⟨e, _⟩ | e)
        · exact absurd e.symm h
        · exact e
theorem upd_keys (l : List (Nat × SV)) (i : Nat) (x : SV) : (upd l i x).map (·.1) = l.map (·.1) := by
  induction l with
  | nil => rfl
  | cons a r ih =>
    obtain ⟨j, y⟩ := a
    unfold upd
    cases h : Nat.beq j i with
    | true => simp [natBeq h]
    | false => simp [ih]
theorem KnownC_ok {w : World} {b : Nat} {cells : List (Nat × SV)} (h : ∀ p ∈ cells, w.cell? ⟨b, p.1, none⟩ = some p.2.val ∧ w.frozen? ⟨b, p.1, none⟩ = false) : KnownC w b (cells.map fun (o, x) => (o, x.val)) := by
  induction cells with
  | nil => trivial
  | cons a r ih => exact ⟨h a (by simp), ih fun p hp => h p (by simp [hp])⟩

end Go.SX
set_option linter.unusedSimpArgs false
set_option linter.unusedVariables false
namespace Go.SX
open Go

theorem run_load_ok {P : Program} {w : World} {a : Addr} {v : Value} (h : w.cell? a = some v) : (load a).run P w = .ok v w := by
  simp [h]
theorem loadCellsFrom_ok {P : Program} {w : World} {a : Addr} : ∀ (vs : List Value) (i : Nat) (acc : Array Value), CellsAt w a i vs →
    (loadCellsFrom a i vs.length acc).run P w = .ok (acc ++ vs.toArray) w
  | [], _, acc, _ => by simp [loadCellsFrom]
  | v :: r, i, acc, h => by
    simp only [List.length_cons, loadCellsFrom, Sem.run_bind, run_load_ok h.1, Result.andThen_ok, loadCellsFrom_ok r (i + 1) (acc.push v) h.2]
    simp
theorem loadCells_ok {P : Program} {w : World} {a : Addr} {vs : List Value} (h : CellsAt w a 0 vs) (n : Nat) (hn : n = vs.length) : (loadCells a n).run P w = .ok vs.toArray w := by
  subst hn
  unfold loadCells
  rw [loadCellsFrom_ok vs 0 #[] h]
  simp
theorem loadVar_agg {P : Program} {w : World} {t : TypeId} {a : Addr} {vs : List Value} (hu : (undL P t).isSome = true) (ht : isAggT P t = true) (hi : hasInfo P t = true) (hn : vs.length = sizeT P t) (h : CellsAt w a 0 vs) :
    (loadVar t a).run P w = .ok (.agg vs.toArray) w := by
  unfold loadVar
  simp [run_isAgg hu, ht, run_sizeT hi, loadCells_ok h _ hn.symm]
theorem loadVar_one {P : Program} {w : World} {t : TypeId} {a : Addr} {v : Value} (hu : (undL P t).isSome = true) (ht : isAggT P t = false) (h : w.cell? a = some v) :
    (loadVar t a).run P w = .ok v w := by
  unfold loadVar
  simp only [Sem.run_bind, run_isAgg hu, ht, Result.andThen_ok, Bool.false_eq_true, if_false]
  exact run_load_ok h
theorem loadAt_eq {P : Program} {w : World} {t : TypeId} (a : Addr) : (Instr.loadAt t (.pointer (some a))).run P w = (loadVar t a).run P w := by
  unfold Instr.loadAt
  simp [Instr.sureAddr]

theorem ldRaw_sound {P : Program} {t : TypeId} {ad : Addr} {s : St} {K : YK} (hu : (undL P t).isSome = true) (h : ldRaw P t ad s K) :
    ∃ y e G, K y e G ∧ wfV s.chs y ∧ GP G s.w ∧ ∀ w, GP G w → (loadVar t ad).run P w = .ok y.val w := by
  unfold ldRaw at h
  rcases cond_true' h with ⟨ht, h⟩ | ⟨ht, h⟩
  · cases hf : flat P 8 t with
    | none =>
      rw [hf] at h
      obtain ⟨hc, vs, hcell, h⟩ := cond_ok h
      exact ⟨_, _, _, h, wfV_v _ _, hcell, fun w hw => loadVar_agg hu ht hc hw.1 hw.2⟩
    | some cs =>
      rw [hf] at h
      obtain ⟨hc, h⟩ := cond_ok h
      rw [Bool.and_eq_true] at hc
      obtain ⟨vs, hl, hcell, h⟩ := exCs_ex h
      exact ⟨_, _, _, h, wfV_v _ _, hcell, fun w hw => loadVar_agg hu ht hc.2 (by rw [hl]; exact natBeq hc.1) hw⟩
  · obtain ⟨v, hc, h⟩ := exC_ex h
    exact ⟨_, _, _, h, wfV_v _ _, hc, fun w hw => loadVar_one hu ht hw⟩

theorem getCells_ok {w : World} {b : Nat} {cells : List (Nat × SV)} (hc : ∀ o x, lk cells o = some x → w.cell? ⟨b, o, none⟩ = some x.val) (off0 : Nat) :
    ∀ (n i : Nat) (xs : List SV), getCells cells (off0 + i) n = some xs → xs.length = n ∧ CellsAt w ⟨b, off0, none⟩ i (xs.map SV.val)
  | 0, i, xs, h => by
    simp only [getCells, Option.some.injEq] at h
    subst h
    exact ⟨rfl, trivial⟩
  | n + 1, i, xs, h => by
    simp only [getCells] at h
    split at h
    · rename_i x r hx hr
      simp only [Option.some.injEq] at h
      subst h
      obtain ⟨hl, hh⟩ := getCells_ok hc off0 n (i + 1) r hr
      refine ⟨by simp [hl], ?_, hh⟩
      have ha : (⟨b, off0, none⟩ : Addr).add i = ⟨b, off0 + i, none⟩ := by unfold Addr.add; split <;> simp_all
      rw [ha]
      exact hc _ _ hx
    · cases h

theorem loadC_sound {P : Program} {t : TypeId} {x : SV} {s : St} {K : YK} (hs : Sat s) (hx : wfV s.chs x) (h : loadC P t x s K) :
    ∃ y e G, K y e G ∧ wfV s.chs y ∧ GP G s.w ∧ ∀ w, GP G w → (Instr.loadAt t x.val).run P w = .ok y.val w := by
  unfold loadC at h
  obtain ⟨hu, h⟩ := cond_ok h
  cases x with
  | p b j off =>
    obtain ⟨c, hc, hb⟩ := hx b j off rfl
    subst hb
    simp only [hc] at h
    simp only [SV.val, loadAt_eq]
    rcases cond_true' h with ⟨ht, h⟩ | ⟨ht, h⟩
    · split at h
      · rename_i xs hxs
        cases hi : hasInfo P t with
        | false => rw [hi] at hxs; cases hxs
        | true =>
          rw [hi] at hxs
          obtain ⟨hl, hcs⟩ := getCells_ok (w := s.w) (b := c.b) (fun o x hx => (hs.cell j c hc o x hx).1) off (sizeT P t) 0 xs (by simpa using hxs)
          exact ⟨_, _, _, h, wfV_v _ _, hcs, fun w hw => loadVar_agg hu ht hi (by simp [hl]) hw⟩
      · exact ldRaw_sound hu h
    · split at h
      · rename_i x hx'
        refine ⟨_, _, _, h, ?_, (hs.cell j c hc off x hx').1, fun w hw => loadVar_one hu ht hw⟩
        intro b' j' o' he
        subst he
        exact hs.wfC j c off b' j' o' hc hx'
      · exact ldRaw_sound hu h
  | v x =>
    cases x with
    | pointer q =>
      cases q with
      | none => exact h.elim
      | some ad => simp only [SV.val, loadAt_eq]; exact ldRaw_sound hu h
    | _ => exact h.elim

/-! ### Pure operations -/
theorem sameKind_eq {k k' : IntKind} (h : sameKind k k' = true) : k = k' := by cases k <;> cases k' <;> first | rfl | cases h

theorem intBin_sound {P : Program} {op : BinOp} {k : IntKind} {a b : Int} {K : Value → Prop} (h : intBin op k a b K) :
    ∃ v, K v ∧ op ≠ .shl ∧ op ≠ .shr ∧ ∀ w t, (binOp op t (.int k a) (.int k b)).run P w = .ok v w := by
  cases op <;> simp only [intBin, Wr] at h <;> try exact h.elim
  case quo =>
    refine ⟨_, h.2, by simp, by simp, fun w t => ?_⟩
    simp [binOp, Op.intDiv, h.1]
  case rem =>
    refine ⟨_, h.2, by simp, by simp, fun w t => ?_⟩
    simp [binOp, Op.intDiv, h.1]
  all_goals
    refine ⟨_, h, by simp, by simp, fun w t => ?_⟩
    first
      | rfl
      | (simp [binOp, Op.intArith, Op.intBits, Op.intCmp, andI, orI, xorI, andNotI, bitI]; done)
theorem run_eqGuard_plain {P : Program} {op : BinOp} {t : TypeId} {x y : Operand} {a b : Value} (w : World) (h1 : ¬ (a = .nilIface ∧ b = .nilIface)) (h2 : ∀ xs ys, ¬ (a = .agg xs ∧ b = .agg ys)) : (eqGuard op t x y a b).run P w = .ok () w := by
  unfold eqGuard
  cases op <;> try rfl
  all_goals
    cases a <;> cases b <;> first | rfl | (exact absurd ⟨rfl, rfl⟩ h1) | (exact absurd ⟨rfl, rfl⟩ (h2 _ _))
theorem strBin_sound {P : Program} {op : BinOp} {a b : ByteArray} {K : Value → Prop} (h : strBin op a b K) :
    ∃ v, K v ∧ ∀ w t, (binOp op t (.string a) (.string b)).run P w = .ok v w := by
  cases op <;> simp only [strBin] at h <;> try exact h.elim
  case add =>
    refine ⟨_, h.2, fun w t => ?_⟩
    have h' : ¬ ((a.size + b.size : Nat) : Int) > IntKind.i64.max := by
      have := h.1
      show ¬ ((a.size + b.size : Nat) : Int) > 9223372036854775807
      omega
    simp only [binOp, Op.stringOp, h', if_false, Sem.run_pure]
  all_goals
    refine ⟨_, h, fun w t => ?_⟩
    rfl

theorem boolBin_sound {P : Program} {op : BinOp} {t : TypeId} {x y : Value} {c : Bool} {K : Value → Prop} (he' : ∀ w, (Op.equalIn (9999 + 1) t x y).run P w = .ok c w)
    (hb1 : binOp .eql t x y = (do pure (.bool (← Op.equal t x y)))) (hb2 : binOp .neq t x y = (do pure (.bool (!(← Op.equal t x y)))))
    (hg : ∀ w X Y, (eqGuard op t X Y x y).run P w = .ok () w)
    (h : boolBin op c K) : ∃ v, K v ∧ ∀ w (X Y : Operand), (do eqGuard op t X Y x y; binOp op t x y : Sem Value).run P w = .ok v w := by
  have he : ∀ w, (Op.equal t x y).run P w = .ok c w := he'
  cases op <;> simp only [boolBin] at h <;> try exact h.elim
  · exact ⟨_, h, fun w X Y => by rw [Sem.run_bind, hg, Result.andThen_ok, hb1, Sem.run_bind, he w]; rfl⟩
  · exact ⟨_, h, fun w X Y => by rw [Sem.run_bind, hg, Result.andThen_ok, hb2, Sem.run_bind, he w]; rfl⟩
theorem run_underlying' {P : Program} {t : TypeId} {d : TypeDesc} (h : P.underlying t = some d) (w : World) : (underlying t).run P w = .ok d w := by
  simp [underlying, h]

theorem eq1_sound {P : Program} {t : TypeId} {x y : Value} {b : Bool} (h : eq1 P t x y = some b) (d : Nat) (w : World) :
    (Op.equalIn (d + 1) t x y).run P w = .ok b w ∧ isAggT P t = false ∧ P.eqGuardType (d + 1) t = false ∧ (undL P t).isSome = true := by
  unfold eq1 at h
  split at h
  · rename_i hu
    simp only [Option.some.injEq] at h
    subst h
    have hu' := undL_some hu
    exact ⟨run_equalIn_bool w d t _ _ hu', by simp [isAggT, hu], by simp [Program.eqGuardType, hu'], by simp [hu]⟩
  · rename_i hu
    cases hk : sameKind _ _ with
    | false => rw [hk] at h; cases h
    | true =>
      rw [hk] at h
      have := sameKind_eq hk
      subst this
      simp only [cond_true, Option.some.injEq] at h
      subst h
      have hu' := undL_some hu
      exact ⟨run_equalIn_int w d t _ _ _ _ hu', by simp [isAggT, hu], by simp [Program.eqGuardType, hu'], by simp [hu]⟩
  · rename_i hu
    simp only [Option.some.injEq] at h
    subst h
    have hu' := undL_some hu
    exact ⟨run_equalIn_string w d t _ _ hu', by simp [isAggT, hu], by simp [Program.eqGuardType, hu'], by simp [hu]⟩
  · cases h

theorem run_part {P : Program} {t : TypeId} {cs : Array Value} {off : Nat} {v : Value} (hu : (undL P t).isSome = true) (hi : hasInfo P t = true ∨ isAggT P t = false) (h : partC P t cs.toList off = some v) (w : World) : (part t cs off).run P w = .ok v w := by
  unfold partC at h
  unfold part
  rw [Sem.run_bind, run_isAgg hu]
  simp only [Result.andThen_ok]
  cases ht : isAggT P t with
  | true =>
    rw [ht] at h
    rcases hi with hi | hi
    · rw [hi] at h
      simp only [cond_true, Option.some.injEq] at h
      subst h
      simp [run_sizeT hi, dropN_eq, takeN_eq, List.drop_take]
      apply Array.ext'
      simp [List.drop_take]
    · rw [ht] at hi; cases hi
  | false =>
    rw [ht] at h
    simp only [cond_false] at h
    rw [nth_eq] at h
    have : cs[off]? = some v := by simpa using h
    simp [this]

theorem eqFs_sound {P : Program} {xs ys : Array Value} : ∀ (fs : List Field) {b : Bool}, eqFs P xs.toList ys.toList fs = some b → (fs.all fun f => !(f.name == "_")) = true → ∀ d w,
    (Op.eqFields (d + 1) xs ys fs).run P w = .ok b w
  | [], b, h, _, d, w => by
    simp only [eqFs, Option.some.injEq] at h
    subst h
    simp [Op.eqFields]
  | [f], b, h, hn, d, w => by
    simp only [eqFs] at h
    split at h
    · rename_i x y hx hy
      obtain ⟨h1, h2, _, h4⟩ := eq1_sound h d w
      have hx' := run_part (cs := xs) (off := f.offset) h4 (.inr h2) (v := x) (by simp [partC, h2, hx]) w
      have hy' := run_part (cs := ys) (off := f.offset) h4 (.inr h2) (v := y) (by simp [partC, h2, hy]) w
      have hne : (f.name ≠ "_") := by simpa using hn
      simp only [Op.eqFields, Sem.run_bind, Sem.run_ite, hne, ne_eq, not_false_eq_true, if_true, hx', hy', Result.andThen_ok, h1]
      cases b <;> simp
    · cases h
  | f :: g :: r, b, h, hn, d, w => by
    simp only [eqFs] at h
    split at h
    · rename_i x y hx hy
      split at h
      · rename_i e e' he he'
        simp only [Option.some.injEq] at h
        subst h
        obtain ⟨h1, h2, _, h4⟩ := eq1_sound he d w
        have hx' := run_part (cs := xs) (off := f.offset) h4 (.inr h2) (v := x) (by simp [partC, h2, hx]) w
        have hy' := run_part (cs := ys) (off := f.offset) h4 (.inr h2) (v := y) (by simp [partC, h2, hy]) w
        have hn' := hn
        rw [List.all_cons, Bool.and_eq_true] at hn'
        have hne : (f.name ≠ "_") := by simpa using hn'.1
        have ih := eqFs_sound (g :: r) he' hn'.2 d w
        rw [Op.eqFields]
        simp only [Sem.run_bind, Sem.run_ite, hne, ne_eq, not_false_eq_true, if_true, hx', hy', Result.andThen_ok, h1]
        cases e
        · simp
        · simp [ih]
      · cases h
    · cases h
theorem eqFs_guard {P : Program} {xs ys : Array Value} : ∀ (fs : List Field) {b : Bool}, eqFs P xs.toList ys.toList fs = some b → ∀ d, ∀ f ∈ fs, P.eqGuardType (d + 1) f.type = false
  | [], _, _, _, f, hf => by cases hf
  | [g], b, h, d, f, hf => by
    simp only [eqFs] at h
    split at h
    · have : f = g := by simpa using hf
      subst this
      exact (eq1_sound h d default).2.2.1
    · cases h
  | g :: g' :: r, b, h, d, f, hf => by
    simp only [eqFs] at h
    split at h
    · split at h
      · rename_i e e' he he'
        rcases List.mem_cons.1 hf with rfl | hf
        · exact (eq1_sound he d default).2.2.1
        · exact eqFs_guard (g' :: r) he' d f hf
      · cases h
    · cases h
theorem depth_pos (P : Program) : ∃ d, P.depth = d + 2 := ⟨2 * (P.types.size + Made.depth), rfl⟩

theorem eqN_bool {P : Program} {t : TypeId} {a b : Bool} (h : P.underlying t = some .bool) (d : Nat) (w : World) : (Op.equalIn (d + 1) t (.bool a) (.bool b)).run P w = .ok (a == b) w := by simp [Op.equalIn, run_underlying' h]
theorem eqN_ptr {P : Program} {t e : TypeId} {q : Option Addr} (h : P.underlying t = some (.pointer e)) (d : Nat) (w : World) : (Op.equalIn (d + 1) t (.pointer q) (.pointer none)).run P w = .ok q.isNone w := by cases q <;> simp [Op.equalIn, run_underlying' h]
theorem eqN_slice {P : Program} {t e : TypeId} {q : Option Addr} {a b c d : Nat} (h : P.underlying t = some (.slice e)) (n : Nat) (w : World) : (Op.equalIn (n + 1) t (.slice q a b) (.slice none c d)).run P w = .ok q.isNone w := by cases q <;> simp [Op.equalIn, run_underlying' h]
theorem eqN_map {P : Program} {t k e : TypeId} {q : Option Nat} (h : P.underlying t = some (.map k e)) (d : Nat) (w : World) : (Op.equalIn (d + 1) t (.map q) (.map none)).run P w = .ok q.isNone w := by cases q <;> simp [Op.equalIn, run_underlying' h]
theorem eqN_func {P : Program} {t : TypeId} {a b : Array TypeId} {c : Bool} {f : Fn} {x y : Array Value} (h : P.underlying t = some (.func a b c)) (d : Nat) (w : World) : (Op.equalIn (d + 1) t (.func f x y) .nilFunc).run P w = .ok false w := by simp [Op.equalIn, run_underlying' h]
theorem eqN_nilf {P : Program} {t : TypeId} {a b : Array TypeId} {c : Bool} (h : P.underlying t = some (.func a b c)) (d : Nat) (w : World) : (Op.equalIn (d + 1) t .nilFunc .nilFunc).run P w = .ok true w := by simp [Op.equalIn, run_underlying' h]
theorem agg_guard {P : Program} {op : BinOp} {t : TypeId} {X Y : Operand} {xs ys : Array Value} {fs : Array Field} (hu : undL P t = some (.struct fs)) {b : Bool} (h : eqFs P xs.toList ys.toList fs.toList = some b) (w : World) :
    (eqGuard op t X Y (.agg xs) (.agg ys)).run P w = .ok () w := by
  refine run_eqGuard_agg w op t X Y xs ys ?_
  obtain ⟨d, hd⟩ := depth_pos P
  rw [hd]
  simp only [Program.eqGuardType, undL_some hu]
  rw [← Array.any_toList, List.any_eq_false]
  intro f hf
  have := eqFs_guard fs.toList h d f hf
  simp only [Program.eqGuardType] at this
  simp [this]
theorem agg_equal {P : Program} {t : TypeId} {xs ys : Array Value} {fs : Array Field} (hu : undL P t = some (.struct fs)) {b : Bool} (h : eqFs P xs.toList ys.toList fs.toList = some b) (hp : plainT P t = true) (w : World) :
    (Op.equalIn (9999 + 1) t (.agg xs) (.agg ys)).run P w = .ok b w := by
  have hu' := undL_some hu
  unfold plainT at hp
  rw [hu', Bool.and_eq_true] at hp
  have hf : P.fieldsOf t = fs := by simp [Program.fieldsOf, hu']
  rw [run_equalIn_struct w 9999 t xs ys (by rw [hf]; exact hu') (by simpa using hp.1), hf]
  exact eqFs_sound fs.toList h hp.2 9998 w

theorem binC_0 {P : Program} {op : BinOp} {t : TypeId} {x y : SV} {K : Value → Prop} (h : binC P op t x y K) : binC0 P op t x y K := by
  unfold binC at h
  split at h
  · rename_i v hy
    have e : y = .v .nilFunc := by
      unfold nilF at hy
      split at hy
      · rfl
      · cases hy
    subst e
    cases hu : undL P t with
    | none => rw [hu] at h; exact h.elim
    | some d =>
      rw [hu] at h
      cases d with
      | func a b c =>
        unfold FnVal at h
        cases v with
        | func f a1 a2 =>
          show (match undL P t with | some (.func _ _ _) => boolBin op false K | _ => False)
          rw [hu]; exact h
        | nilFunc =>
          show (match undL P t with | some (.func _ _ _) => boolBin op true K | _ => False)
          rw [hu]; exact h
        | _ => exact h.elim
      | _ => exact h.elim
  · exact h.elim
  · exact h
theorem binC_sound {P : Program} {op : BinOp} {t : TypeId} {x y : SV} {K : Value → Prop} (h : binC P op t x y K) :
    ∃ v, K v ∧ ∀ w (X Y : Operand), (do eqGuard op t X Y x.val y.val; binOp op t x.val y.val : Sem Value).run P w = .ok v w := by
  replace h := binC_0 h
  unfold binC0 at h
  split at h
  · rename_i k a k' b
    have hg : ∀ w X Y, (eqGuard op t X Y (.int k a) (.int k' b)).run P w = .ok () w := fun w X Y => run_eqGuard_plain w (by simp) (by simp)
    split at h
    · refine ⟨_, h.2, fun w X Y => ?_⟩
      simp only [SV.val]
      rw [Sem.run_bind, hg, Result.andThen_ok]
      have : ¬ b < 0 := by omega
      simp [binOp, Op.shift, this, shlI]
    · refine ⟨_, h.2, fun w X Y => ?_⟩
      simp only [SV.val]
      rw [Sem.run_bind, hg, Result.andThen_ok]
      have : ¬ b < 0 := by omega
      simp [binOp, Op.shift, this, shrI]
    · have h : cond (sameKind k k') (intBin op k a b K) False := h
      obtain ⟨hk, h2⟩ := cond_ok h
      have := sameKind_eq hk
      subst this
      obtain ⟨v, hv, _, _, hr⟩ := intBin_sound (P := P) h2
      refine ⟨v, hv, fun w X Y => ?_⟩
      simp only [SV.val]
      rw [Sem.run_bind, hg, Result.andThen_ok]
      exact hr w t
  · obtain ⟨v, hv, hr⟩ := strBin_sound (P := P) h
    refine ⟨v, hv, fun w X Y => ?_⟩
    simp only [SV.val]
    rw [Sem.run_bind, run_eqGuard_plain w (by simp) (by simp), Result.andThen_ok]
    exact hr w t
  · split at h
    · rename_i hu
      exact boolBin_sound (x := .bool _) (y := .bool _) (fun w => eqN_bool (undL_some hu) 9999 w) rfl rfl (fun w X Y => run_eqGuard_plain w (by simp) (by simp)) h
    · exact h.elim
  · split at h
    · rename_i q _ _ hu
      exact boolBin_sound (x := .pointer _) (y := .pointer _) (fun w => eqN_ptr (undL_some hu) 9999 w) rfl rfl (fun w X Y => run_eqGuard_plain w (by simp) (by simp)) h
    · exact h.elim
  · split at h
    · rename_i hu
      exact boolBin_sound (x := .pointer _) (y := .pointer _) (fun w => eqN_ptr (undL_some hu) 9999 w) rfl rfl (fun w X Y => run_eqGuard_plain w (by simp) (by simp)) h
    · exact h.elim
  · split at h
    · rename_i q _ _ _ _ _ _ hu
      exact boolBin_sound (x := .slice _ _ _) (y := .slice _ _ _) (fun w => eqN_slice (undL_some hu) 9999 w) rfl rfl (fun w X Y => run_eqGuard_plain w (by simp) (by simp)) h
    · exact h.elim
  · split at h
    · rename_i q _ _ _ hu
      exact boolBin_sound (x := .map _) (y := .map _) (fun w => eqN_map (undL_some hu) 9999 w) rfl rfl (fun w X Y => run_eqGuard_plain w (by simp) (by simp)) h
    · exact h.elim
  · split at h
    · rename_i hu
      exact boolBin_sound (x := .func _ _ _) (y := .nilFunc) (fun w => eqN_func (undL_some hu) 9999 w) rfl rfl (fun w X Y => run_eqGuard_plain w (by simp) (by simp)) h
    · exact h.elim
  · split at h
    · rename_i hu
      exact boolBin_sound (x := .nilFunc) (y := .nilFunc) (fun w => eqN_nilf (undL_some hu) 9999 w) rfl rfl (fun w X Y => run_eqGuard_plain w (by simp) (by simp)) h
    · exact h.elim
  · rename_i xs ys
    split at h
    · rename_i fs hu
      split at h
      · rename_i e he
        exact boolBin_sound (x := .agg _) (y := .agg _) (fun w => agg_equal hu he h.1 w) rfl rfl (fun w X Y => agg_guard hu he w) h.2
      · exact h.elim
    · exact h.elim
  · exact h.elim

end Go.SX
set_option linter.unusedSimpArgs false
set_option linter.unusedVariables false
namespace Go.SX
open Go

theorem asI_some {x : SV} {i : Int} (h : asI x = some i) : ∃ k, x = .v (.int k i) := by
  unfold asI at h
  split at h
  · simp only [Option.some.injEq] at h; subst h; exact ⟨_, rfl⟩
  · cases h
theorem boundC_sound {P : Program} {x : Option SV} {y d : Nat} {K : Nat → Prop} (h : boundC x y d K) :
    (x = none ∧ K d) ∨ ∃ (k : IntKind) (i : Int) (n : Nat), x = some (.v (.int k i)) ∧ i = (n : Int) ∧ K n ∧ ∀ w c, (Instr.sliceBound (.int k i) y c).run P w = .ok n w := by
  unfold boundC at h
  split at h
  · exact .inl ⟨rfl, h⟩
  · rename_i a
    split at h
    · rename_i i hi
      obtain ⟨k, rfl⟩ := asI_some hi
      refine .inr ⟨k, i, i.toNat, rfl, by omega, h.2, fun w c => ?_⟩
      simp [Instr.sliceBound, asIntOf, h.1]
    · exact h.elim
theorem optLook_some {s : St} {ρ : Operand → Value} {x : Option Operand} {y : Option SV} (ha : ∀ z, x = some z → ∀ y, look s z = some y → ρ z = y.val) (h : optLook s x = some y) : x.map ρ = y.map SV.val := by
  unfold optLook at h
  split at h
  · simp only [Option.some.injEq] at h; subst h; rfl
  · rename_i z
    split at h
    · rename_i a hl
      simp only [Option.some.injEq] at h
      subst h
      simp [ha z rfl a hl]
    · cases h
theorem sliceC_sound {P : Program} {t : TypeId} {x : SV} {lo hi mx : Option SV} {K : SV → Prop} (h : sliceC P t x lo hi mx K) :
    ∃ v, K (.v v) ∧ ∀ w, (Instr.sliceAt t x.val (lo.map SV.val) (hi.map SV.val) (mx.map SV.val)).run P w = .ok v w := by
  unfold sliceC at h
  split at h
  · rename_i e a n c hu
    obtain ⟨hi', h⟩ := cond_ok h
    have hu' := undL_some hu
    split at h
    · exact h.elim
    · rename_i hne
      rcases boundC_sound (P := P) h with ⟨he, h⟩ | ⟨km, im, m, rfl, hm, h, hrm⟩
      · rcases boundC_sound (P := P) h with ⟨he', h⟩ | ⟨kh, ih, hh, rfl, hh', h, hrh⟩
        · rcases boundC_sound (P := P) h with ⟨he'', h⟩ | ⟨kl, il, l, rfl, hl', h, hrl⟩
          · refine ⟨_, h, fun w => ?_⟩
            (try subst he); (try subst he'); (try subst he''); simp [Instr.sliceAt, run_underlying' hu', Instr.slice, Instr.sliceBounds, run_sizeT hi', SV.val, cutA]
          · refine ⟨_, h, fun w => ?_⟩
            (try subst he); (try subst he'); (try subst he''); simp [Instr.sliceAt, run_underlying' hu', Instr.slice, Instr.sliceBounds, run_sizeT hi', SV.val, cutA, hrl]
        · rcases boundC_sound (P := P) h with ⟨he'', h⟩ | ⟨kl, il, l, rfl, hl', h, hrl⟩
          · refine ⟨_, h, fun w => ?_⟩
            (try subst he); (try subst he'); (try subst he''); simp [Instr.sliceAt, run_underlying' hu', Instr.slice, Instr.sliceBounds, run_sizeT hi', SV.val, cutA, hrh]
          · refine ⟨_, h, fun w => ?_⟩
            (try subst he); (try subst he'); (try subst he''); simp [Instr.sliceAt, run_underlying' hu', Instr.slice, Instr.sliceBounds, run_sizeT hi', SV.val, cutA, hrl, hrh]
      · rcases boundC_sound (P := P) h with ⟨he', h⟩ | ⟨kh, ih, hh, rfl, hh', h, hrh⟩
        · exact absurd he' (by intro e; subst e; exact hne _ rfl rfl)
        · rcases boundC_sound (P := P) h with ⟨he'', h⟩ | ⟨kl, il, l, rfl, hl', h, hrl⟩
          · refine ⟨_, h, fun w => ?_⟩
            (try subst he); (try subst he'); (try subst he''); simp [Instr.sliceAt, run_underlying' hu', Instr.slice, Instr.sliceBounds, run_sizeT hi', SV.val, cutA, hrh, hrm]
          · refine ⟨_, h, fun w => ?_⟩
            (try subst he); (try subst he'); (try subst he''); simp [Instr.sliceAt, run_underlying' hu', Instr.slice, Instr.sliceBounds, run_sizeT hi', SV.val, cutA, hrl, hrh, hrm]
  · rename_i str hu
    have hu' := undL_some hu
    split at h
    · exact h.elim
    · rcases boundC_sound (P := P) h with ⟨he', h⟩ | ⟨kh, ih, hh, rfl, hh', h, hrh⟩
      · rcases boundC_sound (P := P) h with ⟨he'', h⟩ | ⟨kl, il, l, rfl, hl', h, hrl⟩
        · refine ⟨_, h, fun w => ?_⟩
          (try subst he); (try subst he'); (try subst he''); simp [Instr.sliceAt, run_underlying' hu', Instr.slice, Instr.sliceBounds, SV.val]
        · refine ⟨_, h, fun w => ?_⟩
          (try subst he); (try subst he'); (try subst he''); simp [Instr.sliceAt, run_underlying' hu', Instr.slice, Instr.sliceBounds, SV.val, hrl]
      · rcases boundC_sound (P := P) h with ⟨he'', h⟩ | ⟨kl, il, l, rfl, hl', h, hrl⟩
        · refine ⟨_, h, fun w => ?_⟩
          (try subst he); (try subst he'); (try subst he''); simp [Instr.sliceAt, run_underlying' hu', Instr.slice, Instr.sliceBounds, SV.val, hrh]
        · refine ⟨_, h, fun w => ?_⟩
          (try subst he); (try subst he'); (try subst he''); simp [Instr.sliceAt, run_underlying' hu', Instr.slice, Instr.sliceBounds, SV.val, hrl, hrh]
  · rename_i n e b j off hu
    have hu' := undL_some hu
    obtain ⟨hi', h⟩ := cond_ok h
    split at h
    · exact h.elim
    · rcases boundC_sound (P := P) h with ⟨he', h⟩ | ⟨kh, ih, hh, rfl, hh', h, hrh⟩
      · rcases boundC_sound (P := P) h with ⟨he'', h⟩ | ⟨kl, il, l, rfl, hl', h, hrl⟩
        · refine ⟨_, h, fun w => ?_⟩
          (try subst he); (try subst he'); (try subst he''); simp only [Instr.sliceAt, Sem.run_bind, run_underlying' hu', Result.andThen_ok, Instr.sureAddr, Instr.sliceBounds, SV.val, Option.map_none, Sem.run_pure, run_sizeT hi', cutA]
          split <;> rfl
        · refine ⟨_, h, fun w => ?_⟩
          (try subst he); (try subst he'); (try subst he''); simp only [Instr.sliceAt, Sem.run_bind, run_underlying' hu', Result.andThen_ok, Instr.sureAddr, Instr.sliceBounds, SV.val, Option.map_none, Option.map_some, Sem.run_pure, run_sizeT hi', cutA, hrl, Option.isSome_none, Bool.false_eq_true, if_false]
          split <;> rfl
      · rcases boundC_sound (P := P) h with ⟨he'', h⟩ | ⟨kl, il, l, rfl, hl', h, hrl⟩
        · refine ⟨_, h, fun w => ?_⟩
          (try subst he); (try subst he'); (try subst he''); simp only [Instr.sliceAt, Sem.run_bind, run_underlying' hu', Result.andThen_ok, Instr.sureAddr, Instr.sliceBounds, SV.val, Option.map_none, Option.map_some, Sem.run_pure, run_sizeT hi', cutA, hrh, Bool.false_eq_true, if_false]
          split <;> rfl
        · refine ⟨_, h, fun w => ?_⟩
          (try subst he); (try subst he'); (try subst he''); simp only [Instr.sliceAt, Sem.run_bind, run_underlying' hu', Result.andThen_ok, Instr.sureAddr, Instr.sliceBounds, SV.val, Option.map_none, Option.map_some, Sem.run_pure, run_sizeT hi', cutA, hrl, hrh, Option.isSome_none, Bool.false_eq_true, if_false]
          split <;> rfl
  · exact h.elim

theorem fieldOf_some {P : Program} {t : TypeId} {f : Nat} {fd : Field} (h : fieldOf P t f = some fd) : ∃ fs, undL P t = some (.struct fs) ∧ fs[f]? = some fd := by
  unfold fieldOf at h
  split at h
  · rename_i fs hu
    rw [nth_eq] at h
    exact ⟨fs, hu, by simpa using h⟩
  · cases h
theorem natBlt {a b : Nat} (h : Nat.blt a b = true) : a < b := by
  unfold Nat.blt at h
  exact Nat.le_of_ble_eq_true h
theorem add_plain' (b off n : Nat) : (⟨b, off, none⟩ : Addr).add n = ⟨b, off + n, none⟩ := by unfold Addr.add; split <;> simp_all
theorem fieldAddrC_sound {P : Program} {t : TypeId} {x : SV} {f : Nat} {chs : List Ch} {K : SV → Prop} (hx : wfV chs x) (h : fieldAddrC P t x f K) :
    ∃ y, K y ∧ wfV chs y ∧ ∀ w, (Instr.fieldAt t x.val f).run P w = .ok y.val w := by
  unfold fieldAddrC at h
  split at h
  · exact h.elim
  · rename_i fd hfd
    obtain ⟨hc, h⟩ := cond_ok h
    rw [Bool.and_eq_true] at hc
    obtain ⟨fs, hu, hfs⟩ := fieldOf_some hfd
    have hu' := undL_some hu
    have hz : ¬ sizeT P fd.type = 0 := by have := natBlt hc.2; omega
    have hrun : ∀ (a : Addr) w, (Instr.fieldAt t (.pointer (some a)) f).run P w = .ok (.pointer (some (a.add fd.offset))) w := by
      intro a w
      simp [Instr.fieldAt, run_underlying' hu', hfs, Instr.sureAddr, fieldPlace, run_sizeT hc.1, hz]
    cases x with
    | p b j off =>
      refine ⟨_, h, ?_, fun w => ?_⟩
      · intro b' j' o' he
        cases he
        exact hx b j off rfl
      · show (Instr.fieldAt t (.pointer (some ⟨b, off, none⟩)) f).run P w = _
        rw [hrun, add_plain']; rfl
    | v x =>
      cases x with
      | pointer q =>
        cases q with
        | none => exact h.elim
        | some a => exact ⟨_, h, wfV_v _ _, hrun a⟩
      | _ => exact h.elim
theorem indexAddrC_sound {P : Program} {t : TypeId} {x ix : SV} {ci : Option Nat} {chs : List Ch} {K : SV → Prop} (hx : wfV chs x) (h : indexAddrC P t x ix ci K) :
    ∃ y, K y ∧ wfV chs y ∧ ∀ w, (Instr.indexAt t x.val ix.val).run P w = .ok y.val w := by
  unfold indexAddrC at h
  split at h
  · exact h.elim
  · rename_i i hi
    obtain ⟨k, rfl⟩ := asI_some hi
    split at h
    · rename_i e q n c hu
      have hu' := undL_some hu
      obtain ⟨hs, h⟩ := cond_ok h
      cases q with
      | none => exact h.2.elim
      | some a =>
        refine ⟨_, h.2, wfV_v _ _, fun w => ?_⟩
        simp [Instr.indexAt, asIntOf, SV.val, run_underlying' hu', h.1, run_sizeT hs]
    · rename_i n e b j off hu
      have hu' := undL_some hu
      obtain ⟨hs, h⟩ := cond_ok h
      split at h
      · rename_i c
        obtain ⟨hlt, h⟩ := cond_ok h
        have hlt := natBlt hlt
        obtain ⟨hic, h2⟩ := h
        subst hic
        refine ⟨_, h2, ?_, fun w => ?_⟩
        · intro b' j' o' he
          cases he
          exact hx b j off rfl
        · simp [Instr.indexAt, asIntOf, SV.val, run_underlying' hu', run_sizeT hs, Instr.sureAddr, add_plain', hlt]
      · refine ⟨_, h.2, wfV_v _ _, fun w => ?_⟩
        simp [Instr.indexAt, asIntOf, SV.val, run_underlying' hu', h.1, run_sizeT hs, Instr.sureAddr]
    · rename_i n e q hu
      have hu' := undL_some hu
      obtain ⟨hs, h⟩ := cond_ok h
      cases q with
      | none => exact h.2.elim
      | some a =>
        refine ⟨_, h.2, wfV_v _ _, fun w => ?_⟩
        simp [Instr.indexAt, asIntOf, SV.val, run_underlying' hu', h.1, run_sizeT hs, Instr.sureAddr]
    · exact h.elim
theorem indexC_sound {P : Program} {t : TypeId} {x ix : SV} {K : SV → Prop} (h : indexC P t x ix K) :
    ∃ y, K (.v y) ∧ ∀ w, (Instr.index t x.val ix.val).run P w = .ok y w := by
  unfold indexC at h
  split at h
  · exact h.elim
  · rename_i i hi
    obtain ⟨k, rfl⟩ := asI_some hi
    split at h
    · rename_i str hu
      have hu' := undL_some hu
      have hlt : i.toNat < str.size := by omega
      refine ⟨_, h.2, fun w => ?_⟩
      have h0 : 0 ≤ i := h.1.1
      simp [Instr.index, asIntOf, SV.val, run_underlying' hu', h0, byteAt, hlt]
    · rename_i n e cs hu
      have hu' := undL_some hu
      rcases cond_true' h with ⟨_, h⟩ | ⟨ha, h⟩
      · exact h.elim
      · obtain ⟨hc, h⟩ := cond_ok h
        rw [Bool.and_eq_true] at hc
        obtain ⟨v, hv, h2⟩ := exC_ex h.2
        refine ⟨_, h2, fun w => ?_⟩
        have hc1 : Nat.beq (sizeT P e) 1 = true ∧ hasInfo P e = true := by simpa using hc.1
        have hs1 : sizeT P e = 1 := natBeq hc1.1
        rw [nth_eq] at hv
        have hv' : cs[i.toNat]? = some v := by simpa using hv
        have hue : (undL P e).isSome = true := hc.2
        have hp := run_part (cs := cs) (off := i.toNat) hue (.inr ha) (v := v) (by simp [partC, ha, nth_eq, hv']) w
        simp [Instr.index, asIntOf, SV.val, run_underlying' hu', h.1, run_sizeT hc1.2, hs1, hp]
    · exact h.elim
/-! ### Structs that are built -/
theorem setN_eq {α : Type} (l : List α) (n : Nat) (x : α) : setN l n x = l.set n x := by
  induction l generalizing n with
  | nil => cases n <;> rfl
  | cons a r ih => cases n with
    | zero => rfl
    | succ n => simp [setN, ih]
theorem setNs_eq {α : Type} (vs : List α) : ∀ (l : List α) (o k : Nat), setNs l (o + k) vs = ((vs.zipIdx k).foldl (fun (cs : Array α) (p : α × Nat) => cs.setIfInBounds (o + p.2) p.1) l.toArray).toList := by
  induction vs with
  | nil => intro l o k; simp [setNs]
  | cons v r ih =>
    intro l o k
    simp only [setNs, List.zipIdx_cons, List.foldl_cons]
    have : (l.toArray.setIfInBounds (o + k) v) = (l.set (o + k) v).toArray := by simp
    rw [this, ← ih (l.set (o + k) v) o (k + 1), setN_eq, Nat.add_assoc]
theorem cellsL_eq (v : Value) : cellsL v = v.cells.toList := by
  cases v <;> rfl
theorem fillC_sound {place : Nat → Option (Nat × Nat)} : ∀ (parts : List (Nat × Value)) {cells cs : List Value}, fillC place cells parts = some cs → Instr.fill place cells.toArray parts = some cs.toArray
  | [], cells, cs, h => by simp only [fillC, Option.some.injEq] at h; subst h; rfl
  | (i, v) :: r, cells, cs, h => by
    simp only [fillC] at h
    simp only [Instr.fill]
    split at h
    · cases h
    · rename_i off size hp
      simp only [hp]
      cases hc : (Nat.beq (cellsL v).length size && Nat.ble (off + (cellsL v).length) cells.length) with
      | false => rw [hc] at h; cases h
      | true =>
        rw [hc] at h
        rw [Bool.and_eq_true] at hc
        have h1 := natBeq hc.1
        have h2 := Nat.le_of_ble_eq_true hc.2
        have hlen : (cellsL v).length = v.cells.size := by rw [cellsL_eq]; simp
        have hno : ¬ ((decide (v.cells.size ≠ size) || decide (off + v.cells.size > cells.toArray.size)) = true) := by
          rw [← hlen]; simp; omega
        rw [if_neg hno]
        have := fillC_sound r h
        rw [← this]
        congr 1
        have e := setNs_eq (cellsL v) cells off 0
        simp only [Nat.add_zero] at e
        rw [e, cellsL_eq]
        rw [← Array.foldl_toList]
        simp [Array.toList_zipIdx]
theorem run_mapM_fields {P : Program} (w : World) : ∀ (fs : List Field), (fs.all fun f => hasInfo P f.type) = true →
    (fs.mapM (m := Sem) fun f => do pure (f.offset, ← sizeOf f.type)).run P w = .ok (fs.map fun f => (f.offset, sizeT P f.type)) w
  | [], _ => by simp
  | f :: r, h => by
    rw [List.all_cons, Bool.and_eq_true] at h
    have ih := run_mapM_fields w r h.2
    simp only [List.mapM_cons, Sem.run_bind, run_sizeT h.1, Result.andThen_ok, Sem.run_pure, ih, List.map_cons]
theorem run_zeroValue {P : Program} {t : TypeId} (h : hasZero P t = true) (w : World) : ∃ z, (zeroValue t).run P w = .ok z w ∧ zeroC P t = z.cells := by
  obtain ⟨i, z, _, hi, hz, hc⟩ := hasZero_some h
  exact ⟨z, by simp [zeroValue, typeInfo, hi, hz], hc⟩
theorem buildC_sound {P : Program} {t : TypeId} {parts : List (Nat × Value)} {cs : List Value} (hz : hasZero P t = true) (h : buildC P t parts = some cs) (w : World) :
    (Instr.build t parts.toArray).run P w = .ok (.agg cs.toArray) w := by
  obtain ⟨z, hz1, hz2⟩ := run_zeroValue hz w
  unfold buildC at h
  unfold Instr.build
  simp only [Sem.run_bind, hz1, Result.andThen_ok]
  split at h
  · rename_i fs hu
    rw [run_underlying' (undL_some hu)]
    simp only [Result.andThen_ok]
    cases hf : (fs.toList.all fun f => hasInfo P f.type) with
    | false => rw [hf] at h; cases h
    | true =>
      rw [hf] at h
      have hm := run_mapM_fields w fs.toList hf
      have hm' : (fs.mapM (m := Sem) fun f => do pure (f.offset, ← sizeOf f.type)).run P w = .ok (fs.map fun f => (f.offset, sizeT P f.type)) w := by
        rw [Array.mapM_eq_mapM_toList, Sem.run_map, hm]
        simp only [Result.andThen_ok]
        congr 1
        apply Array.ext'
        simp
      rw [Sem.run_bind, hm']
      have := fillC_sound parts h
      rw [hz2] at this
      have hplace : placeC P fs.toList = ((fs.map fun f => (f.offset, sizeT P f.type))[·]?) := by
        funext i
        unfold placeC
        rw [nth_eq]
        simp only [Array.getElem?_toList, Array.getElem?_map]
        cases fs[i]? <;> rfl
      rw [hplace] at this
      simp only [Result.andThen_ok]
      simp only [Array.toArray_toList] at this
      rw [this]
      rfl
  · rename_i n e hu
    rw [run_underlying' (undL_some hu)]
    simp only [Result.andThen_ok]
    cases hf : hasInfo P e with
    | false => rw [hf] at h; cases h
    | true =>
      rw [hf] at h
      have := fillC_sound parts h
      rw [hz2] at this
      simp only [Array.toArray_toList] at this
      rw [Sem.run_bind, run_sizeT hf]
      simp only [Result.andThen_ok]
      rw [this]
      rfl
  · cases h

theorem builtinY_sound {P : Program} {b : Builtin} {ats : Array TypeId} {args : List SV} {K : SV → Prop} (h : builtinY P b ats args K) (t : TypeId) (cs : Array Bool) :
    ∃ v, K (.v v) ∧ ∀ w, (builtin b ats t cs (args.map SV.val).toArray).run P w = .ok (.value v) w := by
  unfold builtinY at h
  split at h
  · split at h
    · rename_i a ha
      split at h
      · rename_i hu
        rw [nth_eq] at ha
        have ha' : ats[0]? = some a := by simpa using ha
        refine ⟨_, h, fun w => ?_⟩
        simp [builtin, Builtin.len_, ha', SV.val, run_underlying' (undL_some hu), goInt]
      · exact h.elim
    · exact h.elim
  · split at h
    · rename_i a ha
      split at h
      · rename_i hu
        rw [nth_eq] at ha
        have ha' : ats[0]? = some a := by simpa using ha
        refine ⟨_, h, fun w => ?_⟩
        simp [builtin, Builtin.len_, ha', SV.val, run_underlying' (undL_some hu), goInt]
      · exact h.elim
    · exact h.elim
  · rename_i x _ _
    split at h
    · rename_i a ha
      split at h
      · rename_i hu
        rw [nth_eq] at ha
        have ha' : ats[0]? = some a := by simpa using ha
        refine ⟨_, h, fun w => ?_⟩
        simp [builtin, Builtin.len_, ha', run_underlying' (undL_some hu), goInt]
      · exact h.elim
    · exact h.elim
  · refine ⟨_, h, fun w => ?_⟩
    simp [builtin, Builtin.min_, Builtin.min2, SV.val, minI]
  · refine ⟨_, h, fun w => ?_⟩
    simp [builtin, Builtin.max_, Builtin.max2, SV.val, maxI]
  · exact h.elim

end Go.SX
set_option linter.unusedSimpArgs false
set_option linter.unusedVariables false
namespace Go.SX
open Go

theorem bytesToString_ok {P : Program} {w : World} {q : Option Addr} {str : ByteArray} {c : Nat} (h : BytesAt w q str) : (Conv.bytesToString (.slice q str.size c)).run P w = .ok (.string str) w := by
  cases q with
  | none =>
    have h0 : str.size = 0 := by
      rcases Nat.eq_zero_or_pos str.size with h0 | h0
      · exact h0
      · obtain ⟨ad, e, _⟩ := h 0 h0
        cases e
    have : str = ByteArray.empty := by
      obtain ⟨d⟩ := str
      have : d.size = 0 := h0
      have : d = #[] := Array.eq_empty_of_size_eq_zero this
      subst this; rfl
    subst this
    rfl
  | some ad =>
    have hl : (loadCells ad str.size).run P w = .ok ((str.data.toList.map fun b => (b.toNat : Int)).map (Value.int .u8)).toArray w := by
      have := run_loadCells_list (P := P) w ad ((str.data.toList.map fun b => (b.toNat : Int)).map (Value.int .u8)) (fun j v hj => by
        have hjl : j < str.data.toList.length := by
          rcases Nat.lt_or_ge j str.data.toList.length with h' | h'
          · exact h'
          · simp [List.getElem?_eq_none (show (str.data.toList).length ≤ j from h')] at hj
        obtain ⟨ad', e, hc⟩ := h j (by simpa using hjl)
        cases e
        rw [hc]
        simp [List.getElem?_eq_getElem hjl] at hj
        subst hj
        rfl)
      simpa using this
    rw [run_bytesToString w ad str.size c _ hl, foldl_push_bytes]
    congr 2
    apply ByteArray.ext
    show #[] ++ _ = str.data
    apply Array.ext'
    simp only [Array.toList_append, List.nil_append]
    apply List.ext_getElem <;> simp

theorem yC_sound {P : Program} {o : Oper} {s : St} {K : YK} (hs : Sat s) (h : yC P o s K) (hY : isY P o = true) :
    ∃ x e G, K x e G ∧ wfV s.chs x ∧ GP G s.w ∧ ∀ w, GP G w → ∀ ρ, Agrees s ρ o.op.operands.toList → (execOp ρ o).run P w = .ok (.value x.val) w := by
  obtain ⟨dst, op, type, pos, after, guard⟩ := o
  cases op <;> simp only [yC] at h <;> try exact h.elim
  case move x =>
    split at h
    · rename_i a ha
      exact ⟨_, _, _, h, look_wf hs ha, trivial, fun w _ ρ hρ => by
        have := hρ x (by simp [Op.operands]) a ha
        simp [execOp, this]⟩
    · exact h.elim
  case assign x =>
    split at h
    · rename_i a ha
      exact ⟨_, _, _, h, look_wf hs ha, trivial, fun w _ ρ hρ => by
        have := hρ x (by simp [Op.operands]) a ha
        simp [execOp, this]⟩
    · exact h.elim
  case pick c a b =>
    split at h
    · rename_i t ht
      cases t with
      | true =>
        simp only [cond_true] at h
        split at h
        · rename_i y hy
          exact ⟨_, _, _, h, look_wf hs hy, trivial, fun w _ ρ hρ => by
            have h1 := hρ c (by simp [Op.operands]) _ ht
            have h2 := hρ a (by simp [Op.operands]) y hy
            simp [execOp, h1, h2, SV.val, asBool]⟩
        · exact h.elim
      | false =>
        simp only [cond_false] at h
        split at h
        · rename_i y hy
          exact ⟨_, _, _, h, look_wf hs hy, trivial, fun w _ ρ hρ => by
            have h1 := hρ c (by simp [Op.operands]) _ ht
            have h2 := hρ b (by simp [Op.operands]) y hy
            simp [execOp, h1, h2, SV.val, asBool]⟩
        · exact h.elim
    · exact h.elim
  case load t a =>
    split at h
    · rename_i x hx
      obtain ⟨y, e, G, hK, hw, hG, hr⟩ := loadC_sound hs (look_wf hs hx) h
      exact ⟨y, e, G, hK, hw, hG, fun w hw ρ hρ => by
        have h1 := hρ a (by simp [Op.operands]) x hx
        simp [execOp, h1, hr w hw]⟩
    · exact h.elim
  case nilCheck x =>
    split at h
    · rename_i b j off hx
      exact ⟨_, _, _, h, look_wf hs hx, trivial, fun w _ ρ hρ => by
        have h1 := hρ x (by simp [Op.operands]) _ hx
        simp [execOp, h1, SV.val]⟩
    · rename_i q hx
      cases q with
      | none => exact h.elim
      | some ad =>
        exact ⟨_, _, _, h, wfV_v _ _, trivial, fun w _ ρ hρ => by
          have h1 := hρ x (by simp [Op.operands]) _ hx
          simp [execOp, h1, SV.val]⟩
    · rename_i f fs cp hx
      exact ⟨_, _, _, h, wfV_v _ _, trivial, fun w _ ρ hρ => by
        have h1 := hρ x (by simp [Op.operands]) _ hx
        simp [execOp, h1, SV.val]⟩
    · rename_i f fs cp hx
      exact ⟨_, _, _, h, wfV_v _ _, trivial, fun w _ ρ hρ => by
        have h1 := hρ x (by simp [Op.operands]) _ hx
        simp [execOp, h1, SV.val]⟩
    · exact h.elim
  case binOp op xt x y yt =>
    split at h
    · rename_i a b ha hb
      obtain ⟨v, hv, hr⟩ := binC_sound h
      exact ⟨_, _, _, hv, wfV_v _ _, trivial, fun w _ ρ hρ => by
        have h1 := hρ x (by simp [Op.operands]) _ ha
        have h2 := hρ y (by simp [Op.operands]) _ hb
        have := hr w x y
        simp only [execOp, h1, h2]
        rw [Sem.run_bind, this]
        rfl⟩
    · exact h.elim
  case unOp op t x =>
    split at h
    · rename_i k n hx
      exact ⟨_, _, _, h, wfV_v _ _, trivial, fun w _ ρ hρ => by
        have h1 := hρ x (by simp [Op.operands]) _ hx
        simp [execOp, h1, SV.val, Op.unary, Op.intArith]⟩
    · rename_i k n hx
      exact ⟨_, _, _, h, wfV_v _ _, trivial, fun w _ ρ hρ => by
        have h1 := hρ x (by simp [Op.operands]) _ hx
        have hc : cond k.signed (-1) k.max = if k.signed = true then -1 else k.max := by cases k.signed <;> rfl
        simp [execOp, h1, SV.val, Op.unary, Op.intBits, xorI, bitI, hc]⟩
    · rename_i b hx
      exact ⟨_, _, _, h, wfV_v _ _, trivial, fun w _ ρ hρ => by
        have h1 := hρ x (by simp [Op.operands]) _ hx
        simp [execOp, h1, SV.val, Op.unary]⟩
    · exact h.elim
  case convert src dst' x =>
    split at h
    · rename_i d k kk n hs' hd hx
      exact ⟨_, _, _, h, wfV_v _ _, trivial, fun w _ ρ hρ => by
        have h1 := hρ x (by simp [Op.operands]) _ hx
        simp [execOp, h1, SV.val, convert, run_underlying' (undL_some hs'), run_underlying' (undL_some hd), Conv.intToInt]⟩
    · rename_i b hs' hd hx
      exact ⟨_, _, _, h, wfV_v _ _, trivial, fun w _ ρ hρ => by
        have h1 := hρ x (by simp [Op.operands]) _ hx
        simp [execOp, h1, SV.val, convert, run_underlying' (undL_some hs'), run_underlying' (undL_some hd)]⟩
    · rename_i e a n c hs' hd hx
      split at h
      · rename_i he
        obtain ⟨str, hsz, hb, h⟩ := h
        subst hsz
        exact ⟨_, _, _, h, wfV_v _ _, hb, fun w hw ρ hρ => by
          have h1 := hρ x (by simp [Op.operands]) _ hx
          have hb := bytesToString_ok (P := P) (c := c) (show BytesAt w a str from hw)
          simp [execOp, h1, SV.val, convert, run_underlying' (undL_some hs'), run_underlying' (undL_some hd), run_underlying' (undL_some he), hb]⟩
      · exact h.elim
    · exact h.elim
  case makeFunc fn first cap =>
    split at h
    · rename_i f c hf hc
      exact ⟨_, _, _, h, wfV_v _ _, trivial, fun w _ ρ hρ => by
        have h1 := svs_vals (ρ := ρ) (fun z hz => hρ z (by simp [Op.operands, hz])) hf
        have h2 := svs_vals (ρ := ρ) (fun z hz => hρ z (by simp [Op.operands, hz])) hc
        have e1 : first.map ρ = (f.map SV.val).toArray := by apply Array.ext'; simpa using h1
        have e2 : cap.map ρ = (c.map SV.val).toArray := by apply Array.ext'; simpa using h2
        simp only [execOp, e1, e2, Instr.makeFunc]
        rfl⟩
    · exact h.elim
  case slice t x lo hi mx =>
    split at h
    · rename_i x' lo' hi' mx' hx hlo hhi hmx
      obtain ⟨v, hK, hr⟩ := sliceC_sound h
      exact ⟨_, _, _, hK, wfV_v _ _, trivial, fun w _ ρ hρ => by
        have h1 := hρ x (by simp [Op.operands]) _ hx
        have h2 := optLook_some (ρ := ρ) (x := lo) (fun z hz => hρ z (by subst hz; simp [Op.operands])) hlo
        have h3 := optLook_some (ρ := ρ) (x := hi) (fun z hz => hρ z (by subst hz; simp [Op.operands])) hhi
        have h4 := optLook_some (ρ := ρ) (x := mx) (fun z hz => hρ z (by subst hz; simp [Op.operands])) hmx
        simp only [execOp, h1, h2, h3, h4, Sem.run_bind, hr w]
        rfl⟩
    · exact h.elim
  case fieldAddr t x f =>
    split at h
    · rename_i x' hx
      obtain ⟨y, hK, hw, hr⟩ := fieldAddrC_sound (look_wf hs hx) h
      exact ⟨_, _, _, hK, hw, trivial, fun w _ ρ hρ => by
        have h1 := hρ x (by simp [Op.operands]) _ hx
        simp only [execOp, h1, Sem.run_bind, hr w]
        rfl⟩
    · exact h.elim
  case field t x f =>
    split at h
    · rename_i cs fd hx hfd
      split at h
      · rename_i v hv
        obtain ⟨hc, h⟩ := cond_ok h
        rw [Bool.and_eq_true] at hc
        obtain ⟨fs, hu, hfs⟩ := fieldOf_some hfd
        exact ⟨_, _, _, h, wfV_v _ _, trivial, fun w _ ρ hρ => by
          have h1 := hρ x (by simp [Op.operands]) _ hx
          have hp := run_part hc.2 (.inl hc.1) hv w
          simp [execOp, h1, SV.val, Instr.field, run_underlying' (undL_some hu), hfs, asAgg, hp]⟩
      · exact h.elim
    · exact h.elim
  case indexAddr t x ix =>
    split at h
    · rename_i x' y hx hy
      obtain ⟨z, hK, hw, hr⟩ := indexAddrC_sound (look_wf hs hx) h
      exact ⟨_, _, _, hK, hw, trivial, fun w _ ρ hρ => by
        have h1 := hρ x (by simp [Op.operands]) _ hx
        have h2 := hρ ix (by simp [Op.operands]) _ hy
        simp only [execOp, h1, h2, Sem.run_bind, hr w]
        rfl⟩
    · exact h.elim
  case index t x ix =>
    split at h
    · rename_i x' y hx hy
      obtain ⟨z, hK, hr⟩ := indexC_sound h
      exact ⟨_, _, _, hK, wfV_v _ _, trivial, fun w _ ρ hρ => by
        have h1 := hρ x (by simp [Op.operands]) _ hx
        have h2 := hρ ix (by simp [Op.operands]) _ hy
        simp only [execOp, h1, h2, Sem.run_bind, hr w]
        rfl⟩
    · exact h.elim
  case build t parts =>
    split at h
    · rename_i vs hvs
      split at h
      · rename_i cs hcs
        simp only [isY, Bool.and_eq_true] at hY
        exact ⟨_, _, _, h, wfV_v _ _, trivial, fun w _ ρ hρ => by
          have h1 := svs_vals (ρ := ρ) (fun z hz => hρ z (by simpa [Op.operands] using hz)) hvs
          have e1 : parts.map (fun (i, x) => (i, ρ x)) = ((parts.toList.map (·.1)).zip (vs.map SV.val)).toArray := by
            apply Array.ext'
            rw [← h1]
            simp [List.zip_map']
          have hb := buildC_sound hY.2 hcs w
          simp only [execOp, e1, Sem.run_bind, hb]
          rfl⟩
      · exact h.elim
    · exact h.elim
  case extract x i =>
    split at h
    · rename_i vs hx
      split at h
      · rename_i v hv
        rw [nth_eq] at hv
        have hv' : vs[i]? = some v := by simpa using hv
        exact ⟨_, _, _, h, wfV_v _ _, trivial, fun w _ ρ hρ => by
          have h1 := hρ x (by simp [Op.operands]) _ hx
          simp [execOp, h1, SV.val, Instr.extract, hv']⟩
      · exact h.elim
    · exact h.elim
  case call c =>
    split at h
    · rename_i args b ha hb
      obtain ⟨v, hK, hr⟩ := builtinY_sound h type (c.args.map fun | .const _ => true | _ => false)
      exact ⟨_, _, _, hK, wfV_v _ _, trivial, fun w _ ρ hρ => by
        have h1 := svs_vals (ρ := ρ) (fun z hz => hρ z (by simp [Op.operands, Call.operands, hz])) ha
        have e1 : c.args.map ρ = (args.map SV.val).toArray := by apply Array.ext'; simpa using h1
        simp only [execOp, resolve, hb, e1, Sem.run_bind, Sem.run_pure, Result.andThen_ok, invoke, SV.val]
        exact hr w⟩
    · exact h.elim

end Go.SX
set_option linter.unusedSimpArgs false
set_option linter.unusedVariables false
namespace Go.SX
open Go

/-! ### The blocks that are known stay known -/
theorem Evo.refl (c : List Ch) : Evo c c := fun j x h => ⟨x, h, rfl, rfl⟩
theorem Evo.trans {a b c : List Ch} (h : Evo a b) (k : Evo b c) : Evo a c := fun j x hx => by
  obtain ⟨y, hy, h1, h2⟩ := h j x hx
  obtain ⟨z, hz, h3, h4⟩ := k j y hy
  exact ⟨z, hz, h3.trans h1, h4.trans h2⟩
theorem Evo.app (c m : List Ch) : Evo c (c ++ m) := fun j x h => ⟨x, by rw [nth_append, if_pos (nth_lt h)]; exact h, rfl, rfl⟩
theorem Evo.upd (c : List Ch) (j o : Nat) (v : SV) : Evo c (updCh c j o v) := fun k x h => by
  rw [nth_updCh, h]
  split
  · exact ⟨_, rfl, rfl, upd_keys _ _ _⟩
  · exact ⟨x, rfl, rfl, rfl⟩

/-! ### The state's invariant over each step -/
theorem Sat.esc {s : St} (h : Sat s) (e : List Nat) : Sat { s with esc := e } := ⟨h.cell, h.keys, h.lt, h.apart, h.wfE, h.wfC⟩
theorem Sat.alloc {s : St} (h : Sat s) (o : Obj) : Sat { s with w := s.w.alloc o } := by
  refine ⟨fun j c hc o' x hx => ?_, h.keys, fun j c hc => ?_, h.apart, h.wfE, h.wfC⟩
  · have hlt := h.lt j c hc
    obtain ⟨h1, h2⟩ := h.cell j c hc o' x hx
    exact ⟨(World.cell?_alloc_lt s.w o ⟨c.b, o', none⟩ hlt).trans h1, (World.frozen?_alloc_old s.w o ⟨c.b, o', none⟩ (Nat.ne_of_lt hlt)).trans h2⟩
  · have := h.lt j c hc
    show c.b < (s.w.alloc o).heap.size
    rw [World.size_alloc]; omega
theorem Sat.drew {s : St} (h : Sat s) : Sat { s with w := s.w.drew } :=
  ⟨fun j c hc o x hx => h.cell j c hc o x hx, h.keys, h.lt, h.apart, h.wfE, h.wfC⟩
theorem lk_zip (l : List SV) : ∀ (k o : Nat), lk ((l.zipIdx k).map fun (x, i) => (i, x)) o = if k ≤ o then l[o - k]? else none := by
  induction l with
  | nil => intro k o; simp [lk]
  | cons x r ih =>
    intro k o
    simp only [List.zipIdx_cons, List.map_cons, lk_cons, ih]
    by_cases h : k = o
    · subst h; simp
    · simp only [h, if_false]
      by_cases h2 : k ≤ o
      · rw [if_pos h2, if_pos (by omega)]
        rw [show o - k = (o - (k + 1)) + 1 by omega]
        rfl
      · rw [if_neg h2, if_neg (by omega)]
theorem keys_zip (l : List SV) (k : Nat) : (((l.zipIdx k).map fun (x, i) => (i, x)).map (·.1)) = List.range' k l.length := by
  induction l generalizing k with
  | nil => rfl
  | cons x r ih => simp only [List.zipIdx_cons, List.map_cons, ih, List.length_cons, List.range'_succ]
theorem wfV_app {chs : List Ch} {x : SV} (h : wfV chs x) (m : List Ch) : wfV (chs ++ m) x := by
  intro b j o hx
  obtain ⟨c, hc, hb⟩ := h b j o hx
  refine ⟨c, ?_, hb⟩
  rw [nth_append, if_pos (nth_lt hc)]
  exact hc
theorem Sat.newCh {s : St} (h : Sat s) (cells : List SV) (elem : TypeId) (hwf : ∀ x ∈ cells, wfV s.chs x) :
    Sat { s with chs := s.chs ++ [⟨s.w.heap.size, cells.zipIdx.map fun (x, i) => (i, x)⟩], w := s.w.alloc (.cells (cells.map SV.val).toArray elem) } := by
  have h1 := h.alloc (.cells (cells.map SV.val).toArray elem)
  have hn : ∀ j c, nth (s.chs ++ [(⟨s.w.heap.size, cells.zipIdx.map fun (x, i) => (i, x)⟩ : Ch)]) j = some c → nth s.chs j = some c ∨ (j = s.chs.length ∧ c = ⟨s.w.heap.size, cells.zipIdx.map fun (x, i) => (i, x)⟩) := by
    intro j c hc
    rw [nth_append] at hc
    split at hc
    · exact .inl hc
    · rename_i hlt
      right
      have : j - s.chs.length = 0 := by
        rcases Nat.eq_zero_or_pos (j - s.chs.length) with h0 | h0
        · exact h0
        · obtain ⟨m, hm⟩ : ∃ m, j - s.chs.length = m + 1 := ⟨j - s.chs.length - 1, by omega⟩
          rw [hm] at hc; simp [nth] at hc
      rw [this] at hc
      simp only [nth, Option.some.injEq] at hc
      exact ⟨by omega, hc.symm⟩
  have hlk : ∀ o x, lk (cells.zipIdx.map fun (x, i) => (i, x)) o = some x → cells[o]? = some x := by
    intro o x hx
    have := lk_zip cells 0 o
    simp only [Nat.zero_le, if_true, Nat.sub_zero] at this
    rw [← this]; exact hx
  refine ⟨fun j c hc o x hx => ?_, fun j c hc => ?_, fun j c hc => ?_, fun i j c d hc hd hij => ?_, fun i b j o hx => wfV_app (fun b' j' o' e => by cases e; exact h.wfE i b j o hx) _ b j o rfl, fun k c o b j o' hc hx => ?_⟩
  · rcases hn j c hc with hc | ⟨_, rfl⟩
    · exact h1.cell j c hc o x hx
    · refine ⟨?_, by simp⟩
      have := hlk o x hx
      show (s.w.alloc _).cell? ⟨s.w.heap.size, o, none⟩ = _
      rw [World.cell?_alloc_new]
      simp [this]
  · rcases hn j c hc with hc | ⟨_, rfl⟩
    · exact h.keys j c hc
    · show ((cells.zipIdx.map fun (x, i) => (i, x)).map (·.1)).Nodup
      rw [keys_zip]; exact List.nodup_range'
  · rcases hn j c hc with hc | ⟨_, rfl⟩
    · exact h1.lt j c hc
    · show s.w.heap.size < (s.w.alloc _).heap.size
      rw [World.size_alloc]; omega
  · rcases hn i c hc with hc | ⟨h3, rfl⟩ <;> rcases hn j d hd with hd | ⟨h4, rfl⟩
    · exact h.apart i j c d hc hd hij
    · exact Nat.ne_of_lt (h.lt i c hc)
    · exact (Nat.ne_of_lt (h.lt j d hd)).symm
    · omega
  · refine wfV_app (x := .p b j o') ?_ _ b j o' rfl
    rcases hn k c hc with hc | ⟨_, rfl⟩
    · intro b' j' o'' e; cases e; exact h.wfC k c o b j o' hc hx
    · exact hwf _ (List.mem_of_getElem? (hlk o _ hx))
theorem wfV_new (s : St) (c : List (Nat × SV)) : wfV (s.chs ++ [⟨s.w.heap.size, c⟩]) (.p s.w.heap.size s.chs.length 0) := by
  intro b j o e
  cases e
  refine ⟨⟨s.w.heap.size, c⟩, ?_, rfl⟩
  rw [nth_append, if_neg (by omega)]
  simp [nth]

theorem nth_upd {cs : List Ch} {j o : Nat} {x : SV} {k : Nat} {d : Ch} (h : nth (updCh cs j o x) k = some d) :
    ∃ c, nth cs k = some c ∧ d.b = c.b ∧ (k ≠ j → d = c) ∧ (k = j → d.cells = upd c.cells o x) := by
  rw [nth_updCh] at h
  split at h
  · rename_i hk
    cases hc : nth cs k with
    | none => rw [hc] at h; cases h
    | some c =>
      rw [hc] at h
      simp only [Option.map_some, Option.some.injEq] at h
      subst h
      exact ⟨c, rfl, rfl, fun hn => absurd hk hn, fun _ => rfl⟩
  · rename_i hk
    exact ⟨d, h, rfl, fun _ => rfl, fun e => absurd e hk⟩
theorem wfV_upd {cs : List Ch} {y : SV} (h : wfV cs y) (j o : Nat) (x : SV) : wfV (updCh cs j o x) y := by
  intro b k o' e
  obtain ⟨c, hc, hb⟩ := h b k o' e
  rw [nth_updCh, hc]
  split
  · exact ⟨_, rfl, hb⟩
  · exact ⟨_, rfl, hb⟩
theorem Sat.set {s : St} (h : Sat s) {j o : Nat} {c : Ch} (hc : nth s.chs j = some c) (ho : (lk c.cells o).isSome = true) {x : SV} (hx : wfV s.chs x) :
    Sat { s with chs := updCh s.chs j o x, w := s.w.setCell ⟨c.b, o, none⟩ x.val } := by
  obtain ⟨y, hy⟩ := Option.isSome_iff_exists.1 ho
  obtain ⟨hcell, hfr⟩ := h.cell j c hc o y hy
  refine ⟨fun k d hd o' z hz => ?_, fun k d hd => ?_, fun k d hd => ?_, fun i k c' d hc' hd hik => ?_, fun i b k o' he => ?_, fun k d o' b i o'' hd hz => ?_⟩
  · obtain ⟨c', hc', hb, h1, h2⟩ := nth_upd hd
    by_cases hk : k = j
    · subst hk
      have : c' = c := Option.some.inj (hc'.symm.trans hc)
      subst this
      rw [h2 rfl, lk_upd _ _ _ _ ho] at hz
      rw [hb]
      refine ⟨?_, by rw [World.frozen?_setCell]; split at hz
                     · rename_i e; subst e; exact hfr
                     · exact (h.cell k c' hc o' z hz).2⟩
      split at hz
      · rename_i e
        subst e
        simp only [Option.some.injEq] at hz
        subst hz
        exact World.cell?_setCell_same s.w _ _ hcell
      · rename_i e
        rw [World.cell?_setCell_other _ _ _ _ (fun e' => e (by injection e'))]
        exact (h.cell k c' hc o' z hz).1
    · rw [h1 hk] at hz ⊢
      have hne : c.b ≠ c'.b := h.apart j k c c' hc hc' (fun e => hk e.symm)
      refine ⟨?_, by rw [World.frozen?_setCell]; exact (h.cell k c' hc' o' z hz).2⟩
      rw [World.cell?_setCell_other _ _ _ _ (fun e' => hne (by injection e'))]
      exact (h.cell k c' hc' o' z hz).1
  · obtain ⟨c', hc', hb, h1, h2⟩ := nth_upd hd
    by_cases hk : k = j
    · rw [h2 hk, upd_keys]; exact h.keys k c' hc'
    · rw [h1 hk]; exact h.keys k c' hc'
  · obtain ⟨c', hc', hb, _⟩ := nth_upd hd
    show d.b < (s.w.setCell _ _).heap.size
    rw [World.size_setCell, hb]
    exact h.lt k c' hc'
  · obtain ⟨a1, e1, b1, _⟩ := nth_upd hc'
    obtain ⟨a2, e2, b2, _⟩ := nth_upd hd
    rw [b1, b2]
    exact h.apart i k a1 a2 e1 e2 hik
  · exact wfV_upd (y := .p b k o') (fun b' k' o'' e => by cases e; exact h.wfE i b k o' he) j o x b k o' rfl
  · refine wfV_upd (y := .p b i o'') ?_ j o x b i o'' rfl
    obtain ⟨c', hc', hb, h1, h2⟩ := nth_upd hd
    by_cases hk : k = j
    · subst hk
      have : c' = c := Option.some.inj (hc'.symm.trans hc)
      subst this
      rw [h2 rfl, lk_upd _ _ _ _ ho] at hz
      split at hz
      · simp only [Option.some.injEq] at hz; subst hz; exact hx
      · intro b' i' o3 e; cases e; exact h.wfC k c' o' b i o'' hc hz
    · rw [h1 hk] at hz
      intro b' i' o3 e; cases e; exact h.wfC k c' o' b i o'' hc' hz
theorem apartAll_ok {a : Addr} {K : Prop} : ∀ {chs : List Ch}, apartAll a chs K → K ∧ ∀ j c, nth chs j = some c → Apart a c.b (c.cells.map (·.1))
  | [], h => ⟨h, fun j c hc => by cases j <;> simp [nth] at hc⟩
  | c :: r, h => by
    obtain ⟨h1, h2⟩ := h
    obtain ⟨h3, h4⟩ := apartAll_ok h2
    refine ⟨h3, fun j d hd => ?_⟩
    cases j with
    | zero => simp only [nth, Option.some.injEq] at hd; subst hd; exact h1
    | succ j => exact h4 j d hd
theorem Sat.rawSet {s : St} (h : Sat s) {a : Addr} (v : Value) (ha : ∀ j c, nth s.chs j = some c → Apart a c.b (c.cells.map (·.1))) : Sat { s with w := s.w.setCell a v } := by
  refine ⟨fun j c hc o x hx => ?_, h.keys, fun j c hc => by show c.b < (s.w.setCell _ _).heap.size; rw [World.size_setCell]; exact h.lt j c hc, h.apart, h.wfE, h.wfC⟩
  obtain ⟨h1, h2⟩ := h.cell j c hc o x hx
  refine ⟨?_, by show (s.w.setCell _ _).frozen? _ = _; rw [World.frozen?_setCell]; exact h2⟩
  show (s.w.setCell _ _).cell? _ = _
  rw [World.cell?_setCell_other _ _ _ _ (fun e => ?_)]
  · exact h1
  · subst e
    rcases ha j c hc with h' | h'
    · exact h' rfl
    · exact h' (List.mem_map.2 ⟨(o, x), (lk_mem (h.keys j c hc)).1 hx, rfl⟩)

/-! ### Behind a call -/
theorem cell_of_block {w w' : World} {b o : Nat} (h : w'.heap[b]? = w.heap[b]?) : w'.cell? ⟨b, o, none⟩ = w.cell? ⟨b, o, none⟩ ∧ w'.frozen? ⟨b, o, none⟩ = w.frozen? ⟨b, o, none⟩ := by
  unfold World.cell? World.frozen?
  simp only [h, and_self]
theorem memN_iff (n : Nat) (l : List Nat) : memN n l = true ↔ n ∈ l := by
  induction l with
  | nil => simp [memN]
  | cons x r ih =>
    unfold memN
    cases h : Nat.beq x n with
    | true => simp [natBeq h]
    | false =>
      have := natBeq_false h
      simp only [cond_false, ih, List.mem_cons]
      constructor
      · exact .inr
      · rintro (e | e)
        · exact absurd e.symm this
        · exact e
/-- The cells are told anew: the same keys, the same addresses. -/
theorem reCells_ok {w : World} {b : Nat} : ∀ {cells : List (Nat × SV)} {K : List (Nat × SV) → Prop}, reCells w b cells K →
    ∃ l, K l ∧ l.map (·.1) = cells.map (·.1) ∧ (∀ p ∈ l, w.cell? ⟨b, p.1, none⟩ = some p.2.val ∧ w.frozen? ⟨b, p.1, none⟩ = false) ∧ ∀ o b' j' o', (o, SV.p b' j' o') ∈ l → (o, SV.p b' j' o') ∈ cells
  | [], K, h => ⟨[], h, rfl, by simp, by simp⟩
  | (o, .p b' j off) :: r, K, h => by
    obtain ⟨h1, h2, h3⟩ := h
    obtain ⟨l, hK, hk, hc, hp⟩ := reCells_ok h3
    refine ⟨_, hK, by simp [hk], ?_, ?_⟩
    · intro p hp'
      rcases List.mem_cons.1 hp' with rfl | hp'
      · exact ⟨h1, h2⟩
      · exact hc p hp'
    · intro o' b2 j2 o2 hm
      rcases List.mem_cons.1 hm with e | hm
      · rw [e]; simp
      · exact List.mem_cons_of_mem _ (hp o' b2 j2 o2 hm)
  | (o, .v x) :: r, K, h => by
    obtain ⟨y, h1, h2, h3⟩ := exC_ex h
    obtain ⟨l, hK, hk, hc, hp⟩ := reCells_ok h3
    refine ⟨_, hK, by simp [hk], ?_, ?_⟩
    · intro p hp'
      rcases List.mem_cons.1 hp' with rfl | hp'
      · exact ⟨h1, h2⟩
      · exact hc p hp'
    · intro o' b2 j2 o2 hm
      rcases List.mem_cons.1 hm with e | hm
      · cases e
      · exact List.mem_cons_of_mem _ (hp o' b2 j2 o2 hm)
theorem keptBs_mem {js : List Nat} : ∀ {i : Nat} {chs : List Ch} {j : Nat} {c : Ch}, nth chs j = some c → memN (i + j) js = false → c.b ∈ keptBs js i chs
  | i, [], j, c, hc, _ => by cases j <;> simp [nth] at hc
  | i, d :: r, 0, c, hc, hm => by
    simp only [nth, Option.some.injEq] at hc
    subst hc
    simp only [Nat.add_zero] at hm
    simp [keptBs, hm]
  | i, d :: r, j + 1, c, hc, hm => by
    have := keptBs_mem (i := i + 1) (chs := r) (j := j) (c := c) hc (by rw [show i + 1 + j = i + (j + 1) by omega]; exact hm)
    unfold keptBs
    cases memN i js
    · exact List.mem_cons_of_mem _ this
    · exact this
theorem reChs_ok {w : World} {js : List Nat} : ∀ {i : Nat} {chs : List Ch} {K : List Ch → Prop}, reChs w js i chs K →
    ∃ cs, K cs ∧ cs.length = chs.length ∧ ∀ j c, nth chs j = some c → ∃ d, nth cs j = some d ∧ d.b = c.b ∧ d.cells.map (·.1) = c.cells.map (·.1) ∧
      (memN (i + j) js = false → d = c) ∧ (memN (i + j) js = true → (∀ p ∈ d.cells, w.cell? ⟨c.b, p.1, none⟩ = some p.2.val ∧ w.frozen? ⟨c.b, p.1, none⟩ = false) ∧ ∀ o b' j' o', (o, SV.p b' j' o') ∈ d.cells → (o, SV.p b' j' o') ∈ c.cells)
  | i, [], K, h => ⟨[], h, rfl, fun j c hc => by cases j <;> simp [nth] at hc⟩
  | i, c :: r, K, h => by
    unfold reChs at h
    rcases cond_true' h with ⟨hm, h⟩ | ⟨hm, h⟩
    · obtain ⟨l, h, hk, hc, hp⟩ := reCells_ok h
      obtain ⟨cs, hK, hl, hall⟩ := reChs_ok h
      refine ⟨_, hK, by simp [hl], fun j d hd => ?_⟩
      cases j with
      | zero =>
        simp only [nth, Option.some.injEq] at hd
        subst hd
        exact ⟨_, rfl, rfl, hk, (fun e => by rw [Nat.add_zero, hm] at e; cases e), fun _ => ⟨hc, hp⟩⟩
      | succ j =>
        obtain ⟨d', h1, h2⟩ := hall j d hd
        rw [show i + (j + 1) = i + 1 + j by omega]
        exact ⟨d', h1, h2⟩
    · obtain ⟨cs, hK, hl, hall⟩ := reChs_ok h
      refine ⟨_, hK, by simp [hl], fun j d hd => ?_⟩
      cases j with
      | zero =>
        simp only [nth, Option.some.injEq] at hd
        subst hd
        exact ⟨_, rfl, rfl, rfl, (fun _ => rfl), (fun e => by rw [Nat.add_zero, hm] at e; cases e)⟩
      | succ j =>
        obtain ⟨d', h1, h2⟩ := hall j d hd
        rw [show i + (j + 1) = i + 1 + j by omega]
        exact ⟨d', h1, h2⟩
theorem nth_of_len {α : Type} {l : List α} {k : Nat} (h : k < l.length) : ∃ x, nth l k = some x := by
  rw [nth_eq]; exact ⟨_, List.getElem?_eq_getElem h⟩
theorem behind_ok {s : St} {js : List Nat} {w' : World} {K : St → Prop} (hs : Sat s) (h : behind s js w' K) :
    ∃ chs, K { s with chs := chs, w := w' } ∧ Sat { s with chs := chs, w := w' } ∧ Evo s.chs chs := by
  obtain ⟨⟨hsize, hkeep⟩, h⟩ := h
  obtain ⟨cs, hK, hl, hall⟩ := reChs_ok h
  have hback : ∀ j d, nth cs j = some d → ∃ c, nth s.chs j = some c := fun j d hd => nth_of_len (by rw [← hl]; exact nth_lt hd)
  have hget : ∀ j d, nth cs j = some d → ∃ c, nth s.chs j = some c ∧ d.b = c.b ∧ d.cells.map (·.1) = c.cells.map (·.1) ∧ (memN j js = false → d = c) ∧
      (memN j js = true → (∀ p ∈ d.cells, w'.cell? ⟨c.b, p.1, none⟩ = some p.2.val ∧ w'.frozen? ⟨c.b, p.1, none⟩ = false) ∧ ∀ o b' j' o', (o, SV.p b' j' o') ∈ d.cells → (o, SV.p b' j' o') ∈ c.cells) := by
    intro j d hd
    obtain ⟨c, hc⟩ := hback j d hd
    obtain ⟨d', h1, h2⟩ := hall j c hc
    have : d' = d := Option.some.inj (h1.symm.trans hd)
    subst this
    simp only [Nat.zero_add] at h2
    exact ⟨c, hc, h2⟩
  have hwf : ∀ x, wfV s.chs x → wfV cs x := by
    intro x hx b j o e
    obtain ⟨c, hc, hb⟩ := hx b j o e
    obtain ⟨d, h1, h2, _⟩ := hall j c hc
    exact ⟨d, h1, by rw [h2, hb]⟩
  refine ⟨cs, hK, ⟨fun j d hd o x hx => ?_, fun j d hd => ?_, fun j d hd => ?_, fun i j c d hc hd hij => ?_, fun i b j o hx => hwf (.p b j o) (fun b' j' o' e => by cases e; exact hs.wfE i b j o hx) b j o rfl, fun k d o b j o' hd hx => ?_⟩, fun j c hc => by obtain ⟨d, h1, h2, h3, _⟩ := hall j c hc; exact ⟨d, h1, h2, h3⟩⟩
  · obtain ⟨c, hc, hb, hk, h1, h2⟩ := hget j d hd
    have hkn : (d.cells.map (·.1)).Nodup := by rw [hk]; exact hs.keys j c hc
    cases hm : memN j js with
    | false =>
      have hd' := h1 hm
      subst hd'
      have hkb := hkeep d.b (keptBs_mem hc (by simpa using hm))
      obtain ⟨h3, h4⟩ := cell_of_block (o := o) hkb
      obtain ⟨h5, h6⟩ := hs.cell j d hc o x hx
      exact ⟨h3.trans h5, h4.trans h6⟩
    | true =>
      obtain ⟨h3, _⟩ := h2 hm
      rw [hb]
      exact h3 (o, x) ((lk_mem hkn).1 hx)
  · obtain ⟨c, hc, hb, hk, _⟩ := hget j d hd
    show (d.cells.map (·.1)).Nodup
    rw [hk]; exact hs.keys j c hc
  · obtain ⟨c, hc, hb, _⟩ := hget j d hd
    have := hs.lt j c hc
    show d.b < w'.heap.size
    rw [hb]; omega
  · obtain ⟨c1, e1, b1, _⟩ := hget i c hc
    obtain ⟨c2, e2, b2, _⟩ := hget j d hd
    rw [b1, b2]
    exact hs.apart i j c1 c2 e1 e2 hij
  · obtain ⟨c, hc, hb, hk, h1, h2⟩ := hget k d hd
    refine hwf (.p b j o') ?_ b j o' rfl
    intro b2 j2 o2 e
    cases e
    cases hm : memN k js with
    | false =>
      have hd' := h1 hm
      subst hd'
      exact hs.wfC k d o b j o' hc hx
    | true =>
      have hkn : (d.cells.map (·.1)).Nodup := by rw [hk]; exact hs.keys k c hc
      have := (h2 hm).2 o b j o' ((lk_mem hkn).1 hx)
      exact hs.wfC k c o b j o' hc ((lk_mem (hs.keys k c hc)).2 this)

theorem knowns_ok {s : St} (hs : Sat s) : Known s.w (knowns s.chs) := by
  have key : ∀ (chs : List Ch), (∀ j c, nth chs j = some c → c.b < s.w.heap.size ∧ ∀ p ∈ c.cells, s.w.cell? ⟨c.b, p.1, none⟩ = some p.2.val ∧ s.w.frozen? ⟨c.b, p.1, none⟩ = false) → Known s.w (knowns chs) := by
    intro chs
    induction chs with
    | nil => intro _; trivial
    | cons c r ih =>
      intro h
      refine ⟨⟨(h 0 c rfl).1, KnownC_ok (h 0 c rfl).2⟩, ih fun j d hd => h (j + 1) d hd⟩
  refine key s.chs fun j c hc => ⟨hs.lt j c hc, fun p hp => ?_⟩
  exact hs.cell j c hc p.1 p.2 ((lk_mem (hs.keys j c hc)).2 hp)
theorem knownK_ok {w : World} {l : List (Nat × List (Nat × Value))} {K : Prop} (h : knownK w l K) (hk : Known w l) : K := by
  unfold knownK at h
  split at h
  · exact h
  · exact h hk

end Go.SX
set_option linter.unusedSimpArgs false
set_option linter.unusedVariables false
namespace Go.SX
open Go

/-- A later state of the same frame. -/
structure Ext (s s' : St) : Prop where
  env : s'.env = s.env
  sat : Sat s'
  evo : Evo s.chs s'.chs
/-- What an operation comes to. -/
inductive Out (P : Program) (r : Result Next) (s : St) (K : SV → St → Prop) : Prop
  | value (x : SV) (s' : St) (h : r = .ok (.value x.val) s'.w) (he : Ext s s') (hw : wfV s'.chs x) (hK : K x s')
  | skip (s' : St) (h : r = .ok .skip s'.w) (he : Ext s s') (hK : K (.v undef) s')
  | enter (f : FuncId) (args : Array Value) (h : r = .ok (.enter f args) s.w)
      (hc : Rets P f args s.w fun v w' => ∃ (x : SV) (s' : St), v = x.val ∧ s'.w = w' ∧ Ext s s' ∧ wfV s'.chs x ∧ K x s')
  | round (l : Nat) (fn : FuncId) (tmps : Array Value) (assign body : Code) (h : r = .ok (.round l fn tmps assign body) s.w)
      (hc : RoundIn Fence.wide 0 P l fn tmps assign body s.w fun e w' => ∃ v, e = .returned v ∧ ∃ (x : SV) (s' : St), v = x.val ∧ s'.w = w' ∧ Ext s s' ∧ wfV s'.chs x ∧ K x s')

theorem rawV_sound {P : Program} {m : Sem Value} {t : TypeId} {s : St} {K : SV → St → Prop} (hs : Sat s) (h : rawV P m t s K) :
    ∃ v s', m.run P s.w = .ok v s'.w ∧ Ext s s' ∧ K (.v v) s' := by
  obtain ⟨v, w', hr, h⟩ := h
  obtain ⟨y, hy, h⟩ := exOp_ex h
  subst hy
  obtain ⟨chs, hK, hsat, hevo⟩ := behind_ok hs h
  exact ⟨v, { s with chs := chs, w := w' }, hr, ⟨rfl, hsat, hevo⟩, hK⟩
theorem rawU_sound {P : Program} {m : Sem Unit} {s : St} {K : SV → St → Prop} (hs : Sat s) (h : rawU P m s K) :
    ∃ s', m.run P s.w = .ok () s'.w ∧ Ext s s' ∧ K (.v undef) s' := by
  obtain ⟨v, w', hr, h⟩ := h
  obtain ⟨chs, hK, hsat, hevo⟩ := behind_ok hs h
  exact ⟨{ s with chs := chs, w := w' }, hr, ⟨rfl, hsat, hevo⟩, hK⟩
theorem rangeC_sound {P : Program} {t : TypeId} {x : SV} {s : St} {K : SV → St → Prop} (hs : Sat s) (h : rangeC P t x s K) :
    ∃ v s', (Instr.range t x.val).run P s.w = .ok v s'.w ∧ Ext s s' ∧ K (.v v) s' := by
  obtain ⟨v, w', hr, q, rfl, h⟩ := h
  obtain ⟨chs, hK, hsat, hevo⟩ := behind_ok hs h
  exact ⟨_, { s with chs := chs, w := w' }, hr, ⟨rfl, hsat, hevo⟩, hK⟩
theorem nextC_sound {P : Program} {it : SV} {isS : Bool} {ty t : TypeId} {s : St} {K : SV → St → Prop} (hs : Sat s) (h : nextC P it isS ty t s K) :
    ∃ v s', (Instr.next it.val isS ty).run P s.w = .ok v s'.w ∧ Ext s s' ∧ K (.v v) s' := by
  unfold nextC at h
  cases isS with
  | false =>
    obtain ⟨v, w', hr, ⟨rfl, h⟩ | ⟨i, c, rfl, h⟩⟩ := h
    · obtain ⟨chs, hK, hsat, hevo⟩ := behind_ok hs h
      exact ⟨_, { s with chs := chs, w := w' }, hr, ⟨rfl, hsat, hevo⟩, hK⟩
    · obtain ⟨chs, hK, hsat, hevo⟩ := behind_ok hs h
      exact ⟨_, { s with chs := chs, w := w' }, hr, ⟨rfl, hsat, hevo⟩, hK⟩
  | true =>
    obtain ⟨v, w', hr, ⟨rfl, h⟩ | ⟨i, c, rfl, h⟩⟩ := h
    · obtain ⟨chs, hK, hsat, hevo⟩ := behind_ok hs h
      exact ⟨_, { s with chs := chs, w := w' }, hr, ⟨rfl, hsat, hevo⟩, hK⟩
    · obtain ⟨chs, hK, hsat, hevo⟩ := behind_ok hs h
      exact ⟨_, { s with chs := chs, w := w' }, hr, ⟨rfl, hsat, hevo⟩, hK⟩
theorem entryC_sound {P : Program} {it : SV} {s : St} {K : SV → St → Prop} (hs : Sat s) (h : entryC P it s K) :
    ∃ v s', (Instr.entry it.val).run P s.w = .ok v s'.w ∧ Ext s s' ∧ K (.v v) s' := by
  obtain ⟨v, w', hr, i, c, rfl, h⟩ := h
  obtain ⟨chs, hK, hsat, hevo⟩ := behind_ok hs h
  exact ⟨_, { s with chs := chs, w := w' }, hr, ⟨rfl, hsat, hevo⟩, hK⟩
theorem svCells_val (y : SV) : (svCells y).map SV.val = y.val.cells.toList := by
  cases y with
  | p b j o => rfl
  | v x =>
    cases x <;> simp [svCells, SV.val, Value.cells]
    rename_i cs
    have : (SV.val ∘ SV.v) = id := rfl
    rw [this, List.map_id]
theorem svCells_wf {chs : List Ch} {y : SV} (h : wfV chs y) : ∀ x ∈ svCells y, wfV chs x := by
  intro x hx
  cases y with
  | p b j o => simp [svCells] at hx; subst hx; exact h
  | v z =>
    cases z <;> simp [svCells] at hx
    case agg cs => obtain ⟨a, _, rfl⟩ := hx; exact wfV_v _ _
    all_goals (subst hx; exact wfV_v _ _)
theorem oneCs_ok {K : Prop} : ∀ {l : List SV}, oneCs l K → K ∧ ∀ x ∈ l, x.val.oneCell' = true
  | [], h => ⟨h, by simp⟩
  | .p b j o :: r, h => by
    obtain ⟨h1, h2⟩ := oneCs_ok (l := r) h
    exact ⟨h1, fun x hx => by rcases List.mem_cons.1 hx with rfl | hx; rfl; exact h2 x hx⟩
  | .v z :: r, h => by
    have h' : OneC z (oneCs r K) := h
    have hz : z.oneCell' = true ∧ oneCs r K := by
      unfold OneC at h'
      split at h'
      · exact h'.elim
      · exact h'.elim
      · rename_i h1 h2
        refine ⟨?_, h'⟩
        cases z <;> first | rfl | (exact absurd rfl (h1 _)) | (exact absurd rfl (h2 _))
    obtain ⟨h1, h2⟩ := oneCs_ok (l := r) hz.2
    exact ⟨h1, fun x hx => by rcases List.mem_cons.1 hx with rfl | hx; exact hz.1; exact h2 x hx⟩
theorem run_store1 {P : Program} {w : World} {a : Addr} {v u : Value} (h1 : v.oneCell' = true) (h2 : w.cell? a = some u) (h3 : w.frozen? a = false) : (store a v).run P w = .ok () (w.setCell a v) := by
  rw [run_store P w a v .plain h1, h2]
  simp [h3]
theorem stRaw_sound {P : Program} {ad : Addr} : ∀ {vs : List Value} {i : Nat} {s : St} {K : St → Prop}, Sat s → stRaw ad i vs s K → (∀ v ∈ vs, v.oneCell' = true) →
    ∃ s', (storeCells ad vs i).run P s.w = .ok () s'.w ∧ Ext s s' ∧ s'.chs = s.chs ∧ K s'
  | [], i, s, K, hs, h, _ => ⟨s, rfl, ⟨rfl, hs, Evo.refl _⟩, rfl, h⟩
  | v :: r, i, s, K, hs, h, h1 => by
    obtain ⟨⟨u, hu⟩, hf, h⟩ := h
    obtain ⟨h, ha⟩ := apartAll_ok h
    obtain ⟨s', hr, he, hc, hK⟩ := stRaw_sound (P := P) (s := { s with w := s.w.setCell (ad.add i) v }) (hs.rawSet v ha) h (fun x hx => h1 x (by simp [hx]))
    refine ⟨s', ?_, ⟨he.env, he.sat, he.evo⟩, hc, hK⟩
    simp only [storeCells, Sem.run_bind, run_store1 (h1 v (by simp)) hu hf, Result.andThen_ok]
    exact hr
theorem stCells_sound {P : Program} {b j : Nat} {off0 : Nat} : ∀ {ys : List SV} {i : Nat} {s : St} {chs : List Ch} {w : World}, Sat s → (∃ c, nth s.chs j = some c ∧ c.b = b) → (∀ y ∈ ys, wfV s.chs y) → (∀ y ∈ ys, y.val.oneCell' = true) →
    stCells b j (off0 + i) ys s.chs s.w = some (chs, w) →
    (storeCells ⟨b, off0, none⟩ (ys.map SV.val) i).run P s.w = .ok () w ∧ Sat { s with chs := chs, w := w } ∧ Evo s.chs chs
  | [], i, s, chs, w, hs, _, _, _, h => by
    simp only [stCells, Option.some.injEq, Prod.mk.injEq] at h
    obtain ⟨rfl, rfl⟩ := h
    exact ⟨rfl, hs, Evo.refl _⟩
  | y :: r, i, s, chs, w, hs, ⟨c, hc, hb⟩, hwf, h1, h => by
    simp only [stCells, hc] at h
    split at h
    · rename_i z hz
      subst hb
      have hset := hs.set hc (by simp [hz] : (lk c.cells (off0 + i)).isSome = true) (hwf y (by simp))
      obtain ⟨hcell, hfr⟩ := hs.cell j c hc _ _ hz
      have hc2 : ∃ d, nth (updCh s.chs j (off0 + i) y) j = some d ∧ d.b = c.b := by
        rw [nth_updCh, hc]; simp
      obtain ⟨hr, hs2, hev⟩ := stCells_sound (P := P) (b := c.b) (off0 := off0) (ys := r) (i := i + 1) (s := { s with chs := updCh s.chs j (off0 + i) y, w := s.w.setCell ⟨c.b, off0 + i, none⟩ y.val }) hset hc2
        (fun x hx => wfV_upd (hwf x (by simp [hx])) _ _ _) (fun x hx => h1 x (by simp [hx])) h
      refine ⟨?_, ⟨hs2.cell, hs2.keys, hs2.lt, hs2.apart, hs2.wfE, hs2.wfC⟩, (Evo.upd _ _ _ _).trans hev⟩
      simp only [List.map_cons, storeCells, Sem.run_bind]
      rw [add_plain', run_store1 (h1 y (by simp)) hcell hfr]
      exact hr
    · cases h
theorem run_storeVar {P : Program} {t : TypeId} {a : Addr} {v : Value} {w w' : World} (hi : hasInfo P t = true) (hn : v.cells.size = sizeT P t) (h : (storeCells a v.cells.toList).run P w = .ok () w') : (storeVar t a v).run P w = .ok () w' := by
  unfold storeVar
  simp only [Sem.run_bind, run_sizeT hi, Result.andThen_ok, hn, ne_eq, not_true, if_false, Sem.run_ite, Sem.run_pure]
  exact h
theorem storeC_sound {P : Program} {t : TypeId} {x y : SV} {s : St} {K : SV → St → Prop} (hs : Sat s) (hx : wfV s.chs x) (hy : wfV s.chs y) (h : storeC P t x y s K) :
    ∃ s', (Instr.storeAt t x.val y.val).run P s.w = .ok () s'.w ∧ Ext s s' ∧ K (.v undef) s' := by
  unfold storeC at h
  obtain ⟨hc, h⟩ := cond_ok h
  rw [Bool.and_eq_true] at hc
  have hn := natBeq hc.1
  have hn' : y.val.cells.size = sizeT P t := by
    rw [← hn]
    have := congrArg List.length (svCells_val y)
    simpa using this.symm
  obtain ⟨h, h1⟩ := oneCs_ok h
  have hone : ∀ v ∈ (svCells y).map SV.val, v.oneCell' = true := by
    intro v hv
    obtain ⟨z, hz, rfl⟩ := List.mem_map.1 hv
    exact h1 z hz
  have hst : ∀ (a : Addr) w w', (storeCells a ((svCells y).map SV.val)).run P w = .ok () w' → (Instr.storeAt t (.pointer (some a)) y.val).run P w = .ok () w' := by
    intro a w w' hr
    rw [svCells_val] at hr
    unfold Instr.storeAt
    simp only [Instr.sureAddr, Sem.run_bind, Sem.run_pure, Result.andThen_ok]
    exact run_storeVar hc.2 hn' hr
  have hraw : ∀ (a : Addr), stRaw a 0 ((svCells y).map SV.val) { s with esc := svJ y ++ s.esc } (fun s' => K (.v undef) s') →
      ∃ s', (Instr.storeAt t (.pointer (some a)) y.val).run P s.w = .ok () s'.w ∧ Ext s s' ∧ K (.v undef) s' := by
    intro a ha
    obtain ⟨s', hr, he, _, hK⟩ := stRaw_sound (P := P) (hs.esc _) ha hone
    exact ⟨s', hst a _ _ hr, ⟨he.env, he.sat, he.evo⟩, hK⟩
  cases x with
  | p b j off =>
    have h : (match stCells b j off (svCells y) s.chs s.w with
         | some (chs, w) => K (.v undef) { s with chs := chs, w := w }
         | none => stRaw ⟨b, off, none⟩ 0 ((svCells y).map SV.val) { s with esc := svJ y ++ s.esc } fun s' => K (.v undef) s') := h
    split at h
    · rename_i chs w hst'
      obtain ⟨hr, hs2, hev⟩ := stCells_sound (P := P) (off0 := off) (i := 0) hs (hx b j off rfl) (svCells_wf hy) h1 hst'
      exact ⟨{ s with chs := chs, w := w }, hst _ _ _ hr, ⟨rfl, hs2, hev⟩, h⟩
    · exact hraw _ h
  | v z =>
    cases z with
    | pointer q =>
      cases q with
      | none => exact h.elim
      | some a => exact hraw a h
    | _ => exact h.elim

theorem run_callFunc_go {P : Program} {f : FuncId} {args : Array Value} {w : World} (hng : P.funcs.toList.all (fun fn => !(fn.name == "runtime.NumGoroutine")) = true) (h : isGo P f = true) : (callFunc f args).run P w = .ok (.enter f args) w := by
  unfold isGo at h
  rw [funcL_eq] at h
  cases hf : P.funcs[f]? with
  | none => rw [hf] at h; cases h
  | some fn =>
    rw [hf] at h
    have hm : fn ∈ P.funcs.toList := by
      have := Array.mem_of_getElem? hf
      exact Array.mem_toList_iff.2 this
    have hn := List.all_eq_true.1 hng fn hm
    have hb : fn.body.isNone = false := by cases hb : fn.body <;> simp_all
    have hn' : (fn.name == "runtime.NumGoroutine") = false := by simpa using hn
    simp only [callFunc, Sem.run_bind, run_program, Result.andThen_ok, hf, hn', hb, Bool.false_eq_true, if_false]
    rfl
theorem Out.of_value {P : Program} {r : Result Next} {s : St} {K : SV → St → Prop} {v : Value} {s' : St} (h : r = .ok (.value v) s'.w) (he : Ext s s') (hK : K (.v v) s') : Out P r s K :=
  .value (.v v) s' h he (wfV_v _ _) hK
theorem run_alloc {P : Program} {e : TypeId} {w : World} (hz : hasZero P e = true) : (Instr.alloc e true (.tuple #[])).run P w = .ok (.pointer (some ⟨w.heap.size, 0, none⟩)) (w.alloc (.cells (zeroC P e) e)) := by
  obtain ⟨z, h1, h2⟩ := run_zeroValue hz w
  unfold Instr.alloc
  simp only [Sem.run_bind, h1, Result.andThen_ok, newVar, newRow, run_newObj, h2, Sem.run_pure]
  rfl
theorem run_box {P : Program} {e : TypeId} {w : World} {v : Value} : (Instr.box e v).run P w = .ok (.pointer (some ⟨w.heap.size, 0, none⟩)) (w.alloc (.cells v.cells e)) := by
  unfold Instr.box
  simp only [Sem.run_bind, newVar, newRow, run_newObj, Result.andThen_ok, Sem.run_pure]
  rfl
theorem map_val_v (l : List Value) : (l.map SV.v).map SV.val = l := by
  rw [List.map_map]
  have : (SV.val ∘ SV.v) = id := rfl
  rw [this, List.map_id]
theorem repL_get {α : Type} (z : List α) : ∀ (n i : Nat), (repL z n)[i]? = if i < n * z.length then z[i % z.length]? else none
  | 0, i => by simp [repL]
  | n + 1, i => by
    simp only [repL]
    rcases Nat.lt_or_ge i z.length with h | h
    · rw [List.getElem?_append_left h, Nat.mod_eq_of_lt h, if_pos]
      rw [Nat.add_mul, Nat.one_mul]; omega
    · rw [List.getElem?_append_right h, repL_get z n, Nat.add_mul, Nat.one_mul]
      have : (i - z.length) % z.length = i % z.length := by
        rw [← Nat.mod_eq_sub_mod h]
      rw [this]
      by_cases h2 : i - z.length < n * z.length
      · rw [if_pos h2, if_pos (by omega)]
      · rw [if_neg h2, if_neg (by omega)]
theorem buildSliceC_sound {P : Program} {t : TypeId} {len : Nat} {parts : List (Nat × Value)} {e : TypeId} {cs : List Value} (h : buildSliceC P t len parts = some (e, cs)) (w : World) :
    (Instr.buildSlice t len parts.toArray).run P w = .ok (.slice (some ⟨w.heap.size, 0, none⟩) len len) (w.alloc (.cells cs.toArray e)) := by
  unfold buildSliceC at h
  split at h
  · rename_i e' hu
    cases hc : (hasInfo P e' && hasZero P e' && Nat.ble (len * sizeT P e') 64 && Nat.blt 0 (len * sizeT P e') && Nat.beq (zeroC P e').toList.length (sizeT P e')) with
    | false => rw [hc] at h; cases h
    | true =>
      rw [hc] at h
      simp only [cond_true] at h
      split at h
      · rename_i cs' hf
        simp only [Option.some.injEq, Prod.mk.injEq] at h
        obtain ⟨rfl, rfl⟩ := h
        simp only [Bool.and_eq_true] at hc
        obtain ⟨⟨⟨⟨h1, h2⟩, h3⟩, h4⟩, h5⟩ := hc
        have h3 := Nat.le_of_ble_eq_true h3
        have h4 := natBlt h4
        have h5 := natBeq h5
        obtain ⟨z, hz1, hz2⟩ := run_zeroValue h2 w
        have hfill := fillC_sound parts hf
        have hrep : (repL (zeroC P e').toList len).toArray = (Array.range (len * sizeT P e')).map (z.cells[· % z.cells.size]!) := by
          have hzl : z.cells.toList.length = sizeT P e' := by rw [← h5, hz2]
          have hzs : z.cells.size = sizeT P e' := by simpa using hzl
          apply Array.ext'
          simp only [Array.toList_map, Array.toList_range]
          apply List.ext_getElem?
          intro i
          rw [repL_get, hz2, hzl, List.getElem?_map]
          by_cases hi : i < len * sizeT P e'
          · rw [if_pos hi]
            have hmod : i % sizeT P e' < z.cells.size := by
              rw [hzs]
              refine Nat.mod_lt _ ?_
              rcases Nat.eq_zero_or_pos (sizeT P e') with h0 | h0
              · rw [h0] at h4; simp at h4
              · exact h0
            rw [List.getElem?_range hi, Array.getElem?_toList]
            simp only [Option.map_some, hzs]
            rw [getElem!_pos z.cells _ hmod, Array.getElem?_eq_getElem hmod]
          · rw [if_neg hi, List.getElem?_eq_none (by simp; omega)]
            rfl
        unfold Instr.buildSlice
        have hne : ¬ (len * sizeT P e' > 2 ^ 24) := by omega
        have hne0 : ¬ (len * sizeT P e' = 0) := by omega
        simp only [Sem.run_bind, run_underlying' (undL_some hu), Result.andThen_ok, run_sizeT h1, hne, if_false, Sem.run_pure, hne0, Sem.run_ite, hz1]
        rw [hrep] at hfill
        rw [hfill]
        rfl
      · cases h
  · cases h

theorem eC_sound {P : Program} {o : Oper} {s : St} {K : SV → St → Prop} (hng : P.funcs.toList.all (fun fn => !(fn.name == "runtime.NumGoroutine")) = true) (hs : Sat s) (h : eC P o s K) {ρ : Operand → Value} (hρ : Agrees s ρ o.op.operands.toList) :
    Out P ((execOp ρ o).run P s.w) s K := by
  obtain ⟨dst, op, type, pos, after, guard⟩ := o
  cases op <;> simp only [eC] at h <;> try exact h.elim
  case alloc e =>
    obtain ⟨hz, h⟩ := cond_ok h
    have hrun : (execOp ρ ⟨dst, .alloc e, type, pos, after, guard⟩).run P s.w = .ok (.value (.pointer (some ⟨s.w.heap.size, 0, none⟩))) (s.w.alloc (.cells (zeroC P e) e)) := by
      simp only [execOp, Sem.run_bind, run_alloc hz]; rfl
    rcases cond_true' h with ⟨_, h⟩ | ⟨_, h⟩
    · have hsat := hs.newCh ((zeroC P e).toList.map SV.v) e (by intro x hx; obtain ⟨y, _, rfl⟩ := List.mem_map.1 hx; exact wfV_v _ _)
      refine .value (.p s.w.heap.size s.chs.length 0) { s with chs := s.chs ++ [⟨s.w.heap.size, ((zeroC P e).toList.map SV.v).zipIdx.map fun (x, i) => (i, x)⟩], w := s.w.alloc (.cells (((zeroC P e).toList.map SV.v).map SV.val).toArray e) } ?_ ⟨rfl, hsat, Evo.app _ _⟩ (wfV_new s _) h
      rw [hrun, map_val_v]; rfl
    · exact .value (.v _) { s with w := s.w.alloc (.cells (zeroC P e) e) } hrun ⟨rfl, hs.alloc _, Evo.refl _⟩ (wfV_v _ _) h
  case box e x =>
    split at h
    · rename_i y hy
      have h1 := hρ x (by simp [Op.operands]) y hy
      have hrun : (execOp ρ ⟨dst, .box e x, type, pos, after, guard⟩).run P s.w = .ok (.value (.pointer (some ⟨s.w.heap.size, 0, none⟩))) (s.w.alloc (.cells y.val.cells e)) := by
        simp only [execOp, Sem.run_bind, h1, run_box]; rfl
      rcases cond_true' h with ⟨_, h⟩ | ⟨_, h⟩
      · have hsat := hs.newCh (svCells y) e (svCells_wf (look_wf hs hy))
        refine .value (.p s.w.heap.size s.chs.length 0) { s with chs := s.chs ++ [⟨s.w.heap.size, (svCells y).zipIdx.map fun (x, i) => (i, x)⟩], w := s.w.alloc (.cells ((svCells y).map SV.val).toArray e) } ?_ ⟨rfl, hsat, Evo.app _ _⟩ (wfV_new s _) h
        rw [hrun, svCells_val]; rfl
      · cases y with
        | p b j o => exact h.elim
        | v z => exact .value (.v _) { s with w := s.w.alloc (.cells z.cells e) } hrun ⟨rfl, hs.alloc _, Evo.refl _⟩ (wfV_v _ _) h
    · exact h.elim
  case store t a x =>
    split at h
    · rename_i a' y ha hy
      have h1 := hρ a (by simp [Op.operands]) _ ha
      have h2 := hρ x (by simp [Op.operands]) _ hy
      rcases cond_true' h with ⟨_, h⟩ | ⟨_, h⟩
      · obtain ⟨s', hr, he, hK⟩ := storeC_sound hs (look_wf hs ha) (look_wf hs hy) h
        refine .skip s' ?_ he hK
        simp only [execOp, Sem.run_bind, h1, h2, hr]; rfl
      · obtain ⟨s', hr, he, hK⟩ := rawU_sound (hs.esc _) h
        refine .skip s' ?_ ⟨he.env, he.sat, he.evo⟩ hK
        simp only [execOp, Sem.run_bind, h1, h2, hr]; rfl
    · exact h.elim
  case convert src dst' x =>
    split at h
    · rename_i y hy
      obtain ⟨v, s', hr, he, hK⟩ := rawV_sound hs h
      have h1 := hρ x (by simp [Op.operands]) _ hy
      exact .of_value (by simp only [execOp, Sem.run_bind, h1, hr]; rfl) he hK
    · exact h.elim
  case makeMap t r =>
    cases r with
    | some r => exact h.elim
    | none => exact .of_value (s' := { s with w := s.w.alloc (.map #[] 0) }) (by simp only [execOp, Sem.run_bind, Instr.makeMap, Option.map_none, run_newObj, Result.andThen_ok, Sem.run_pure]; rfl) ⟨rfl, hs.alloc _, Evo.refl _⟩ h
  case makeSlice t l c =>
    split at h
    · rename_i y z hy hz
      obtain ⟨v, s', hr, he, hK⟩ := rawV_sound hs h
      have h1 := hρ l (by simp [Op.operands]) _ hy
      have h2 := hρ c (by simp [Op.operands]) _ hz
      exact .of_value (by simp only [execOp, Sem.run_bind, h1, h2, hr]; rfl) he hK
    · exact h.elim
  case build t parts =>
    split at h
    · rename_i vs hvs
      obtain ⟨v, s', hr, he, hK⟩ := rawV_sound (hs.esc _) h
      have h1 := svs_vals (ρ := ρ) (fun z hz => hρ z (by simpa [Op.operands] using hz)) hvs
      have e1 : parts.map (fun (i, x) => (i, ρ x)) = ((parts.toList.map (·.1)).zip (vs.map SV.val)).toArray := by
        apply Array.ext'
        rw [← h1]
        simp [List.zip_map']
      exact .of_value (by simp only [execOp, e1, Sem.run_bind]; rw [hr]; rfl) ⟨he.env, he.sat, he.evo⟩ hK
    · exact h.elim
  case buildSlice t len parts =>
    split at h
    · rename_i vs hvs
      have h1 := svs_vals (ρ := ρ) (fun z hz => hρ z (by simpa [Op.operands] using hz)) hvs
      have e1 : parts.map (fun (i, x) => (i, ρ x)) = ((parts.toList.map (·.1)).zip (vs.map SV.val)).toArray := by
        apply Array.ext'
        rw [← h1]
        simp [List.zip_map']
      split at h
      · rename_i e cs hcs
        refine .of_value ?_ ⟨?_, (hs.alloc (.cells cs.toArray e)).esc _, Evo.refl _⟩ h
        · simp only [execOp, e1, Sem.run_bind, buildSliceC_sound hcs s.w]; rfl
        · rfl
      · obtain ⟨v, s', hr, he, hK⟩ := rawV_sound (hs.esc _) h
        exact .of_value (by simp only [execOp, e1, Sem.run_bind]; rw [hr]; rfl) ⟨he.env, he.sat, he.evo⟩ hK
    · exact h.elim
  case lookup t m k ok =>
    split at h
    · rename_i y z hy hz
      obtain ⟨v, s', hr, he, hK⟩ := rawV_sound hs h
      have h1 := hρ m (by simp [Op.operands]) _ hy
      have h2 := hρ k (by simp [Op.operands]) _ hz
      exact .of_value (by simp only [execOp, Sem.run_bind, h1, h2, hr]; rfl) he hK
    · exact h.elim
  case mapUpdate t m k x =>
    split at h
    · rename_i y z u hy hz hu
      obtain ⟨s', hr, he, hK⟩ := rawU_sound hs h
      have h1 := hρ m (by simp [Op.operands]) _ hy
      have h2 := hρ k (by simp [Op.operands]) _ hz
      have h3 := hρ x (by simp [Op.operands]) _ hu
      exact .skip s' (by simp only [execOp, Sem.run_bind, h1, h2, h3, hr]; rfl) he hK
    · exact h.elim
  case range t x =>
    split at h
    · rename_i y hy
      obtain ⟨v, s', hr, he, hK⟩ := rangeC_sound hs h
      have h1 := hρ x (by simp [Op.operands]) _ hy
      exact .of_value (by simp only [execOp, Sem.run_bind, h1, hr]; rfl) he hK
    · exact h.elim
  case next it isS =>
    split at h
    · rename_i y hy
      obtain ⟨v, s', hr, he, hK⟩ := nextC_sound hs h
      have h1 := hρ it (by simp [Op.operands]) _ hy
      exact .of_value (by simp only [execOp, Sem.run_bind, h1, hr]; rfl) he hK
    · exact h.elim
  case entry it =>
    split at h
    · rename_i y hy
      obtain ⟨v, s', hr, he, hK⟩ := entryC_sound hs h
      have h1 := hρ it (by simp [Op.operands]) _ hy
      exact .of_value (by simp only [execOp, Sem.run_bind, h1, hr]; rfl) he hK
    · exact h.elim
  case call c =>
    unfold callC at h
    split at h
    · exact h.elim
    · rename_i args hargs
      have h1 := svs_vals (ρ := ρ) (fun z hz => hρ z (by simp [Op.operands, Call.operands, hz])) hargs
      have e1 : c.args.map ρ = (args.map SV.val).toArray := by apply Array.ext'; simpa using h1
      split at h
      · rename_i b hb
        have hrun : ∀ m : Sem Value, builtin b c.argTypes type (c.args.map fun | .const _ => true | _ => false) (args.map SV.val).toArray = (do pure (.value (← m))) → rawV P m type s K →
            Out P ((execOp ρ ⟨dst, .call c, type, pos, after, guard⟩).run P s.w) s K := by
          intro m hm hraw
          obtain ⟨v, s', hr, he, hK⟩ := rawV_sound hs hraw
          refine .of_value ?_ he hK
          simp only [execOp, resolve, hb, e1, Sem.run_bind, Sem.run_pure, Result.andThen_ok, invoke]
          exact (congrArg (fun q => Sem.run P q s.w) hm).trans (by rw [Sem.run_bind, hr]; rfl)
        unfold builtinE at h
        split at h <;> first | exact h.elim | exact hrun _ rfl h
      · exact h.elim
      · rename_i f hf
        have hfr : f ∈ c.operands.toList := by simp [Call.operands, hf]
        split at h
        · rename_i k first cap _ hk
          have h2 := hρ f (by simpa [Op.operands] using hfr) _ hk
          cases hgo : isGo P k with
          | true =>
            rw [hgo] at h
            simp only [cond_true] at h
            split at h
            · rename_i fn hfn
              have h := knownK_ok h (knowns_ok hs)
              refine .enter k (first ++ (args.map SV.val).toArray ++ cap) ?_ ?_
              · simp only [execOp, resolve, hf, e1, h2, SV.val, Deferred.ofValue, Sem.run_bind, Sem.run_pure, Result.andThen_ok, invoke]
                exact run_callFunc_go hng hgo
              · refine h.mono fun e w' ⟨v, he, hR⟩ => ⟨v, he, ?_⟩
                obtain ⟨y, hy, hb⟩ := exRes_ex hR
                obtain ⟨chs, hK, hsat, hevo⟩ := behind_ok hs hb
                exact ⟨.v y, { s with chs := chs, w := w' }, hy, rfl, ⟨rfl, hsat, hevo⟩, wfV_v _ _, hK⟩
            · exact h.elim
          | false =>
            rw [hgo] at h
            simp only [cond_false] at h
            split at h
            · rename_i fn hfn
              have h := knownK_ok h (knowns_ok hs)
              obtain ⟨v, w', hr, hR⟩ := h
              obtain ⟨y, hy, hb⟩ := exRes_ex hR
              obtain ⟨chs, hK, hsat, hevo⟩ := behind_ok hs hb
              subst hy
              refine .of_value (s' := { s with chs := chs, w := w' }) ?_ ⟨rfl, hsat, hevo⟩ hK
              simp only [execOp, resolve, hf, e1, h2, SV.val, Deferred.ofValue, Sem.run_bind, Sem.run_pure, Result.andThen_ok, invoke]
              exact hr
            · exact h.elim
        · rename_i fv _ hk
          have h2 := hρ f (by simpa [Op.operands] using hfr) _ hk
          replace h := knownK_ok h (knowns_ok hs)
          have hpost : ∀ v w', (exOp P type fun y => v = y ∧ behind s (reach s.chs s.chs.length (args.flatMap svJ ++ s.esc)) w' fun s' => K (.v y) s') → ∃ (x : SV) (s' : St), v = x.val ∧ s'.w = w' ∧ Ext s s' ∧ wfV s'.chs x ∧ K x s' := by
            intro v w' hR
            obtain ⟨y, hy, hb⟩ := exOp_ex hR
            obtain ⟨chs, hK, hsat, hevo⟩ := behind_ok hs hb
            exact ⟨.v y, { s with chs := chs, w := w' }, hy, rfl, ⟨rfl, hsat, hevo⟩, wfV_v _ _, hK⟩
          unfold CallsVal at h
          split at h
          · rename_i k first cap
            refine .enter k (first ++ (args.map SV.val).toArray ++ cap) ?_ ?_
            · simp only [execOp, resolve, hf, e1, h2, SV.val, Deferred.ofValue, Sem.run_bind, Sem.run_pure, Result.andThen_ok, invoke]
              exact run_callFunc_go hng h.1
            · exact h.2.mono fun e w' ⟨v, he, hR⟩ => ⟨v, he, hpost v w' hR⟩
          · rename_i l first cap
            obtain ⟨fn, tmps, assign, body, hy, hR⟩ := h
            refine .round l fn tmps assign body ?_ ?_
            · simp only [execOp, resolve, hf, e1, h2, SV.val, Deferred.ofValue, Sem.run_bind, Sem.run_pure, Result.andThen_ok, invoke]
              exact hy
            · exact hR.mono fun e w' ⟨v, he, hR⟩ => ⟨v, he, hpost v w' hR⟩
          · exact h.elim
        · exact h.elim

end Go.SX

