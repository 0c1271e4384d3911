/- A symbolic executor for the model's code: definitions. For a function and symbolic arguments it computes a condition. -/
import Derived.WalkKit
import Derived.OrdersIn
import Derived.KernelRfl
import Derived.RangeFuncLeaves
import Derived.RangeFuncOwn
/-
A symbolic executor for the model's code: it computes, for a piece of code and a symbolic state, a sufficient
condition; the theorems (in the next text) show that the condition implies the code's weakest precondition.
-/
namespace Go.SX

/-- A symbolic value: a value, or the address of a cell of a block that is known (chunk j, block number b). -/
inductive SV where
  | v (x : Value)
  | p (b j off : Nat)

def SV.val : SV → Value
  | .v x => x
  | .p b _ off => .pointer (some ⟨b, off, none⟩)

/-- A known block: its number, and what some of its cells hold. -/
structure Ch where
  b : Nat
  cells : List (Nat × SV)

structure St where
  env : List (Nat × SV)
  chs : List Ch
  esc : List Nat
  w : World
  /-- the marks of range loops -/
  defs : List Nat := []

def lk : List (Nat × SV) → Nat → Option SV
  | [], _ => none
  | (i, x) :: r, n => cond (Nat.beq i n) (some x) (lk r n)

def upd : List (Nat × SV) → Nat → SV → List (Nat × SV)
  | [], _, _ => []
  | (i, y) :: r, n, x => cond (Nat.beq i n) ((i, x) :: r) ((i, y) :: upd r n x)

def nth {α : Type} : List α → Nat → Option α
  | [], _ => none
  | x :: _, 0 => some x
  | _ :: r, n + 1 => nth r n

def updCh : List Ch → Nat → Nat → SV → List Ch
  | [], _, _, _ => []
  | c :: r, 0, o, x => ⟨c.b, upd c.cells o x⟩ :: r
  | c :: r, n + 1, o, x => c :: updCh r n o x

def look (s : St) : Operand → Option SV
  | .tmp t => lk s.env t
  | .const v => some (.v v)
  | .global g => some (.v (.pointer (some ⟨g, 0, none⟩)))
  | .func f => some (.v (.func (.func f) #[] #[]))

/-! ### Words of the condition: they stay as they are in print -/
def KnownC (w : World) (b : Nat) : List (Nat × Value) → Prop
  | [] => True
  | (o, v) :: r => (w.cell? ⟨b, o, none⟩ = some v ∧ w.frozen? ⟨b, o, none⟩ = false) ∧ KnownC w b r
/-- What the executor knows of the blocks. -/
def Known (w : World) : List (Nat × List (Nat × Value)) → Prop
  | [] => True
  | (b, c) :: r => (b < w.heap.size ∧ KnownC w b c) ∧ Known w r
def knownK (w : World) (l : List (Nat × List (Nat × Value))) (K : Prop) : Prop := match l with | [] => K | x :: r => Known w (x :: r) → K
/-- The blocks are as they were. -/
def Keeps (w w' : World) (bs : List Nat) : Prop := w.heap.size ≤ w'.heap.size ∧ ∀ b ∈ bs, w'.heap[b]? = w.heap[b]?
/-- An integer result, wrapped to its kind. -/
def Wr (k : IntKind) (z : Int) (K : Int → Prop) : Prop := K (k.wrap z)
/-- A pointer that is not nil. -/
def Ptr (q : Option Addr) (K : Addr → Prop) : Prop := match q with | some a => K a | none => False
/-- A cell's address is none of these. -/
def Apart (a : Addr) (b : Nat) (os : List Nat) : Prop := a.block ≠ b ∨ a.off ∉ os
def Runs {α : Type} (P : Program) (m : Sem α) (w : World) (R : α → World → Prop) : Prop := ∃ v w', m.run P w = .ok v w' ∧ R v w'
/-- Two rows of values are one. -/
def SameVals (a b : List Value) : Prop := a = b
def sameK (a b : List Value) (K : Prop) : Prop := match a, b with | [], [] => K | a, b => SameVals a b ∧ K
def cutA (a : Option Addr) (cap l size : Nat) : Option Addr := if cap = l then a else a.map (·.add (l * size))

/-! ### The program's tables, by lists -/
def infoL (P : Program) (t : TypeId) : Option TypeInfo := nth P.types.toList t
def undL (P : Program) (t : TypeId) : Option TypeDesc :=
  match infoL P t with
  | some i => (match i.desc with | .named _ u => (match infoL P u with | some j => some j.desc | none => none) | d => some d)
  | none => none
def funcL (P : Program) (k : FuncId) : Option Func := nth P.funcs.toList k

/-! ### Shapes -/
inductive EK where
  | int (k : IntKind) | bool | str | ptr | slice | map
inductive CTy where
  | int (k : IntKind) | bool | str | ptr | slice | map | raw | agg (l : List IntKind) | row (l : List EK)

def cty : Option TypeDesc → CTy
  | some (.int k) => .int k
  | some .bool => .bool
  | some .string => .str
  | some (.pointer _) => .ptr
  | some (.slice _) => .slice
  | some (.map _ _) => .map
  | _ => .raw

def shapeOf : Value → CTy
  | .int k _ => .int k
  | .bool _ => .bool
  | .string _ => .str
  | .pointer _ => .ptr
  | .slice _ _ _ => .slice
  | .map _ => .map
  | _ => .raw

/-- Integers of these kinds. -/
def exIs : List IntKind → (List Value → Prop) → Prop
  | [], K => K []
  | k :: r, K => ∃ n : Int, exIs r fun vs => K (.int k n :: vs)
def alIs : List IntKind → (List Value → Prop) → Prop
  | [], K => K []
  | k :: r, K => ∀ n : Int, alIs r fun vs => K (.int k n :: vs)
def exE : EK → (Value → Prop) → Prop
  | .int k, K => ∃ n : Int, K (.int k n)
  | .bool, K => ∃ t : Bool, K (.bool t)
  | .str, K => ∃ s : ByteArray, K (.string s)
  | .ptr, K => ∃ q : Option Addr, K (.pointer q)
  | .slice, K => ∃ (a : Option Addr) (n c : Nat), K (.slice a n c)
  | .map, K => ∃ r : Option Nat, K (.map r)
def alE : EK → (Value → Prop) → Prop
  | .int k, K => ∀ n : Int, K (.int k n)
  | .bool, K => ∀ t : Bool, K (.bool t)
  | .str, K => ∀ s : ByteArray, K (.string s)
  | .ptr, K => ∀ q : Option Addr, K (.pointer q)
  | .slice, K => ∀ (a : Option Addr) (n c : Nat), K (.slice a n c)
  | .map, K => ∀ r : Option Nat, K (.map r)
def exEs : List EK → (List Value → Prop) → Prop
  | [], K => K []
  | k :: r, K => exE k fun v => exEs r fun vs => K (v :: vs)
def alEs : List EK → (List Value → Prop) → Prop
  | [], K => K []
  | k :: r, K => alE k fun v => alEs r fun vs => K (v :: vs)
def exC : CTy → (Value → Prop) → Prop
  | .int k, K => ∃ n : Int, K (.int k n)
  | .bool, K => ∃ t : Bool, K (.bool t)
  | .str, K => ∃ s : ByteArray, K (.string s)
  | .ptr, K => ∃ q : Option Addr, K (.pointer q)
  | .slice, K => ∃ (a : Option Addr) (n c : Nat), K (.slice a n c)
  | .map, K => ∃ r : Option Nat, K (.map r)
  | .raw, K => ∃ v : Value, K v
  | .agg l, K => exIs l fun vs => K (.agg vs.toArray)
  | .row l, K => exEs l fun vs => K (.agg vs.toArray)

def alC : CTy → (Value → Prop) → Prop
  | .int k, K => ∀ n : Int, K (.int k n)
  | .bool, K => ∀ t : Bool, K (.bool t)
  | .str, K => ∀ s : ByteArray, K (.string s)
  | .ptr, K => ∀ q : Option Addr, K (.pointer q)
  | .slice, K => ∀ (a : Option Addr) (n c : Nat), K (.slice a n c)
  | .map, K => ∀ r : Option Nat, K (.map r)
  | .raw, K => ∀ v : Value, K v
  | .agg l, K => alIs l fun vs => K (.agg vs.toArray)
  | .row l, K => alEs l fun vs => K (.agg vs.toArray)

def exCs : List CTy → (List Value → Prop) → Prop
  | [], K => K []
  | c :: r, K => exC c fun v => exCs r fun vs => K (v :: vs)
def alCs : List CTy → (List Value → Prop) → Prop
  | [], K => K []
  | c :: r, K => alC c fun v => alCs r fun vs => K (v :: vs)

def sameKind : IntKind → IntKind → Bool
  | .i8, .i8 | .i16, .i16 | .i32, .i32 | .i64, .i64 | .u8, .u8 | .u16, .u16 | .u32, .u32 | .u64, .u64 => true
  | _, _ => false
/-- A function of typed arguments, and its use at values. -/
def FTy (α : Type) : List CTy → Type
  | [] => World → α
  | .int _ :: r => Int → FTy α r
  | .bool :: r => Bool → FTy α r
  | .str :: r => ByteArray → FTy α r
  | .ptr :: r => Option Addr → FTy α r
  | .slice :: r => Option Addr → Nat → Nat → FTy α r
  | .map :: r => Option Nat → FTy α r
  | .raw :: r => Value → FTy α r
  | .agg _ :: r => Value → FTy α r
  | .row _ :: r => Value → FTy α r
def apF {α : Type} (d : α) : (ts : List CTy) → FTy α ts → List Value → World → α
  | [], I, [], w => I w
  | .int k :: r, I, .int k' n :: vs, w => cond (sameKind k k') (apF d r (I n) vs w) d
  | .bool :: r, I, .bool t :: vs, w => apF d r (I t) vs w
  | .str :: r, I, .string s :: vs, w => apF d r (I s) vs w
  | .ptr :: r, I, .pointer q :: vs, w => apF d r (I q) vs w
  | .slice :: r, I, .slice a n c :: vs, w => apF d r (I a n c) vs w
  | .map :: r, I, .map q :: vs, w => apF d r (I q) vs w
  | .raw :: r, I, v :: vs, w => apF d r (I v) vs w
  | _, _, _, _ => d

/-- A type's cells, if they are few. 'true': a struct or an array. -/
def flat (P : Program) : Nat → TypeId → Option (List CTy)
  | 0, _ => none
  | f + 1, t =>
    match undL P t with
    | some (.struct fs) => fs.toList.foldr (fun x acc => match flat P f x.type, acc with | some a, some r => some (a ++ r) | _, _ => none) (some [])
    | some (.array n e) => cond (Nat.ble n 64) (match flat P f e with | some a => some ((List.replicate n a).flatten) | none => none) none
    | d => some [cty d]
def isAggT (P : Program) (t : TypeId) : Bool :=
  match undL P t with
  | some (.struct _) => true
  | some (.array _ _) => true
  | _ => false
/-- There is a value of this type. -/
def exT (P : Program) (t : TypeId) (K : Value → Prop) : Prop :=
  cond (isAggT P t) (match flat P 8 t with | some cs => exCs cs fun vs => K (.agg vs.toArray) | none => ∃ cs : Array Value, K (.agg cs)) (exC (cty (undL P t)) K)
def exTs (P : Program) : List TypeId → (List Value → Prop) → Prop
  | [], K => K []
  | t :: r, K => exT P t fun v => exTs P r fun vs => K (v :: vs)
/-- What a call hands back. -/
def exRes (P : Program) (ts : List TypeId) (K : Value → Prop) : Prop :=
  match ts with
  | [] => K (.tuple #[])
  | [t] => exT P t K
  | ts => exTs P ts fun vs => K (.tuple vs.toArray)
/-- A value of an operation's type: a tuple's parts each by its own. -/
def exOp (P : Program) (t : TypeId) (K : Value → Prop) : Prop :=
  match undL P t with
  | some (.tuple ts) => exTs P ts.toList fun vs => K (.tuple vs.toArray)
  | _ => exT P t K

/-! ### The state's parts -/
def knowns (chs : List Ch) : List (Nat × List (Nat × Value)) := chs.map fun c => (c.b, c.cells.map fun (o, x) => (o, x.val))
def blocks (chs : List Ch) : List Nat := chs.map (·.b)
def memN (n : Nat) : List Nat → Bool
  | [] => false
  | x :: r => cond (Nat.beq x n) true (memN n r)
/-- Which chunks an address leads to, chunk by chunk. -/
def svJ : SV → List Nat
  | .p _ j _ => [j]
  | .v _ => []
def reachStep (chs : List Ch) (js : List Nat) : List Nat :=
  js ++ js.flatMap fun j => match nth chs j with | some c => c.cells.flatMap fun (_, x) => (svJ x).filter fun i => !memN i js | none => []
def reach (chs : List Ch) : Nat → List Nat → List Nat
  | 0, js => js
  | n + 1, js => reach chs n (reachStep chs js)

/-- The cells of a block that a call may have changed: each is told anew. -/
def reCells (w : World) (b : Nat) : List (Nat × SV) → (List (Nat × SV) → Prop) → Prop
  | [], K => K []
  | (o, .p b' j off) :: r, K => w.cell? ⟨b, o, none⟩ = some (.pointer (some ⟨b', off, none⟩)) ∧ w.frozen? ⟨b, o, none⟩ = false ∧ reCells w b r fun l => K ((o, .p b' j off) :: l)
  | (o, .v x) :: r, K => exC (shapeOf x) fun y => w.cell? ⟨b, o, none⟩ = some y ∧ w.frozen? ⟨b, o, none⟩ = false ∧ reCells w b r fun l => K ((o, .v y) :: l)
def reChs (w : World) (js : List Nat) : Nat → List Ch → (List Ch → Prop) → Prop
  | _, [], K => K []
  | i, c :: r, K => cond (memN i js) (reCells w c.b c.cells fun l => reChs w js (i + 1) r fun cs => K (⟨c.b, l⟩ :: cs)) (reChs w js (i + 1) r fun cs => K (c :: cs))
def keptBs (js : List Nat) : Nat → List Ch → List Nat
  | _, [] => []
  | i, c :: r => cond (memN i js) (keptBs js (i + 1) r) (c.b :: keptBs js (i + 1) r)
/-- Behind a call: the world is w'; the chunks js are told anew, all others are as they were. -/
def behind (s : St) (js : List Nat) (w' : World) (K : St → Prop) : Prop :=
  Keeps s.w w' (keptBs js 0 s.chs) ∧ reChs w' js 0 s.chs fun chs => K { s with chs := chs, w := w' }

/-- A cell's store: apart from all that is known. -/
def apartAll (a : Addr) : List Ch → Prop → Prop
  | [], K => K
  | c :: r, K => Apart a c.b (c.cells.map (·.1)) ∧ apartAll a r K

end Go.SX
namespace Go.SX

/-! ### Operations -/
def lookK (s : St) (x : Operand) (K : SV → St → Prop) : Prop := match look s x with | some a => K a s | none => False
def lookV (s : St) (x : Operand) : Value := match look s x with | some a => a.val | none => undef
def opJ (s : St) (x : Operand) : List Nat := match look s x with | some a => svJ a | none => []
def opsJ (s : St) : List Operand → List Nat
  | [] => []
  | x :: r => opJ s x ++ opsJ s r
/-- All operands are there. -/
def haveAll (s : St) : List Operand → Bool
  | [] => true
  | x :: r => match look s x with | some _ => haveAll s r | none => false
def lookVs (s : St) : List Operand → List Value
  | [] => []
  | x :: r => lookV s x :: lookVs s r

def bitI (op : BinOp) (k : IntKind) (x y : Int) : Int :=
  let a := BitVec.ofInt k.bits x
  let b := BitVec.ofInt k.bits y
  match op with
  | .and => k.wrap (a &&& b).toNat
  | .or => k.wrap (a ||| b).toNat
  | .xor => k.wrap (a ^^^ b).toNat
  | .andNot => k.wrap (a &&& ~~~b).toNat
  | _ => 0
def andI (k : IntKind) (x y : Int) : Int := bitI .and k x y
def orI (k : IntKind) (x y : Int) : Int := bitI .or k x y
def xorI (k : IntKind) (x y : Int) : Int := bitI .xor k x y
def andNotI (k : IntKind) (x y : Int) : Int := bitI .andNot k x y
def shlI (k : IntKind) (x y : Int) : Int := x * 2 ^ min y.toNat k.bits
def shrI (k : IntKind) (x y : Int) : Int := x.fdiv (2 ^ min y.toNat k.bits)
def byteAt (s : ByteArray) (i : Int) : Int := match s[i.toNat]? with | some b => b.toNat | none => 0
/-- The bytes at an address are a string's. -/
def BytesAt (w : World) (a : Option Addr) (s : ByteArray) : Prop := ∀ i (h : i < s.size), ∃ ad, a = some ad ∧ w.cell? (ad.add i) = some (.int .u8 (s[i].toNat))

def intBin (op : BinOp) (k : IntKind) (a b : Int) (K : Value → Prop) : Prop :=
  match op with
  | .add => Wr k (a + b) fun r => K (.int k r)
  | .sub => Wr k (a - b) fun r => K (.int k r)
  | .mul => Wr k (a * b) fun r => K (.int k r)
  | .quo => b ≠ 0 ∧ Wr k (a.tdiv b) fun r => K (.int k r)
  | .rem => b ≠ 0 ∧ K (.int k (a.tmod b))
  | .and => K (.int k (andI k a b))
  | .or => K (.int k (orI k a b))
  | .xor => K (.int k (xorI k a b))
  | .andNot => K (.int k (andNotI k a b))
  | .eql => K (.bool (a == b))
  | .neq => K (.bool (a != b))
  | .lss => K (.bool (decide (a < b)))
  | .leq => K (.bool (decide (a ≤ b)))
  | .gtr => K (.bool (decide (a > b)))
  | .geq => K (.bool (decide (a ≥ b)))
  | _ => False
def strBin (op : BinOp) (a b : ByteArray) (K : Value → Prop) : Prop :=
  match op with
  | .add => a.size + b.size ≤ 9223372036854775807 ∧ K (.string (a ++ b))
  | .eql => K (.bool (a.toList == b.toList))
  | .neq => K (.bool (!(a.toList == b.toList)))
  | .lss => K (.bool (Op.bytesLess a.toList b.toList))
  | .leq => K (.bool (Op.bytesLess a.toList b.toList || a.toList == b.toList))
  | .gtr => K (.bool (!(Op.bytesLess a.toList b.toList || a.toList == b.toList)))
  | .geq => K (.bool (!(Op.bytesLess a.toList b.toList)))
  | _ => False
def sizeT (P : Program) (t : TypeId) : Nat := match infoL P t with | some i => i.size | none => 0
def hasInfo (P : Program) (t : TypeId) : Bool := (infoL P t).isSome
def dropN {α : Type} : Nat → List α → List α
  | 0, l => l
  | _ + 1, [] => []
  | n + 1, _ :: r => dropN n r
def takeN {α : Type} : Nat → List α → List α
  | 0, _ => []
  | _ + 1, [] => []
  | n + 1, x :: r => x :: takeN n r
def partC (P : Program) (t : TypeId) (cs : List Value) (off : Nat) : Option Value :=
  cond (isAggT P t) (cond (hasInfo P t) (some (Value.agg (takeN (sizeT P t) (dropN off cs)).toArray)) none) (nth cs off)
/-- '==' of values of a plain type. -/
def eq1 (P : Program) (t : TypeId) (x y : Value) : Option Bool :=
  match undL P t, x, y with
  | some .bool, .bool a, .bool b => some (a == b)
  | some (.int _), .int k a, .int k' b => cond (sameKind k k') (some (a == b)) none
  | some .string, .string a, .string b => some (a.toList == b.toList)
  | _, _, _ => none
/-- '==' of structs field by field. -/
def eqFs (P : Program) (xs ys : List Value) : List Field → Option Bool
  | [] => some true
  | [f] => (match nth xs f.offset, nth ys f.offset with | some a, some b => eq1 P f.type a b | _, _ => none)
  | f :: r =>
    match nth xs f.offset, nth ys f.offset with
    | some a, some b => (match eq1 P f.type a b, eqFs P xs ys r with | some e, some e' => some (e && e') | _, _ => none)
    | _, _ => none
/-- A struct type that the model compares field by field. -/
def plainT (P : Program) (t : TypeId) : Bool :=
  !(P.stoodInHeld t) && (match P.underlying t with | some (.struct fs) => fs.toList.all fun f => !(f.name == "_") | _ => false)

def boolBin (op : BinOp) (c : Bool) (K : Value → Prop) : Prop :=
  match op with
  | .eql => K (.bool c)
  | .neq => K (.bool (!c))
  | _ => False
def binC0 (P : Program) (op : BinOp) (t : TypeId) (x y : SV) (K : Value → Prop) : Prop :=
  match x, y with
  | .v (.int k a), .v (.int k' b) =>
    match op with
    | .shl => 0 ≤ b ∧ Wr k (shlI k a b) fun r => K (.int k r)
    | .shr => 0 ≤ b ∧ K (.int k (shrI k a b))
    | _ => cond (sameKind k k') (intBin op k a b K) False
  | .v (.string a), .v (.string b) => strBin op a b K
  | .v (.bool a), .v (.bool b) => match undL P t with | some .bool => boolBin op (a == b) K | _ => False
  | .v (.pointer q), .v (.pointer none) => match undL P t with | some (.pointer _) => boolBin op q.isNone K | _ => False
  | .p _ _ _, .v (.pointer none) => match undL P t with | some (.pointer _) => boolBin op false K | _ => False
  | .v (.slice q _ _), .v (.slice none _ _) => match undL P t with | some (.slice _) => boolBin op q.isNone K | _ => False
  | .v (.map q), .v (.map none) => match undL P t with | some (.map _ _) => boolBin op q.isNone K | _ => False
  | .v (.func _ _ _), .v .nilFunc => match undL P t with | some (.func _ _ _) => boolBin op false K | _ => False
  | .v .nilFunc, .v .nilFunc => match undL P t with | some (.func _ _ _) => boolBin op true K | _ => False
  | .v (.agg xs), .v (.agg ys) =>
    (match undL P t with
     | some (.struct fs) => (match eqFs P xs.toList ys.toList fs.toList with | some e => plainT P t = true ∧ boolBin op e K | none => False)
     | _ => False)
  | _, _ => False

def nilF : SV → Bool
  | .v .nilFunc => true
  | _ => false
/-- A function value, and whether it is nil. -/
def FnVal (v : Value) (K : Bool → Prop) : Prop := match v with | .func _ _ _ => K false | .nilFunc => K true | _ => False
def binC (P : Program) (op : BinOp) (t : TypeId) (x y : SV) (K : Value → Prop) : Prop :=
  match nilF y, x with
  | true, .v v => (match undL P t with | some (.func _ _ _) => FnVal v fun c => boolBin op c K | _ => False)
  | true, .p _ _ _ => False
  | false, x => binC0 P op t x y K

/-- A new block of few cells becomes known. -/
def newCh (s : St) (cells : List SV) (elem : TypeId) (K : SV → St → Prop) : Prop :=
  K (.p s.w.heap.size s.chs.length 0) { s with chs := s.chs ++ [⟨s.w.heap.size, cells.zipIdx.map fun (x, i) => (i, x)⟩], w := s.w.alloc (.cells (cells.map SV.val).toArray elem) }
def newBig (s : St) (cells : Array Value) (elem : TypeId) (K : SV → St → Prop) : Prop :=
  K (.v (.pointer (some ⟨s.w.heap.size, 0, none⟩))) { s with w := s.w.alloc (.cells cells elem) }
def zeroC (P : Program) (t : TypeId) : Array Value := match infoL P t with | some i => (match i.zero with | some z => z.cells | none => #[]) | none => #[]
/-- The same, as it stands in print. -/
def zeroA (P : Program) (t : TypeId) : Array Value := zeroC P t
def hasZero (P : Program) (t : TypeId) : Bool := match infoL P t with | some i => i.zero.isSome | none => false
def few (P : Program) (t : TypeId) : Bool := match infoL P t with | some i => Nat.ble i.size 48 | none => false

def CellsAt (w : World) (a : Addr) : Nat → List Value → Prop
  | _, [] => True
  | i, v :: r => w.cell? (a.add i) = some v ∧ CellsAt w a (i + 1) r
/-- A great value's cells. -/
def CellsOf (w : World) (a : Addr) (n : Nat) (vs : List Value) : Prop := vs.length = n ∧ CellsAt w a 0 vs
def getCells (cells : List (Nat × SV)) : Nat → Nat → Option (List SV)
  | _, 0 => some []
  | off, n + 1 => match lk cells off, getCells cells (off + 1) n with | some x, some r => some (x :: r) | _, _ => none

/-- What a reading operation hands on: the value, and what must stay true of the world for it to be read again. -/
abbrev YK := SV → List Nat → Option (World → Prop) → Prop
def ldRaw (P : Program) (t : TypeId) (ad : Addr) (s : St) (K : YK) : Prop :=
  cond (isAggT P t)
    (match flat P 8 t with
     | some cs => cond (Nat.beq cs.length (sizeT P t) && hasInfo P t) (exCs cs fun vs => CellsAt s.w ad 0 vs ∧ K (.v (.agg vs.toArray)) s.esc (some fun w => CellsAt w ad 0 vs)) False
     | none => cond (hasInfo P t) (∃ vs : List Value, CellsOf s.w ad (sizeT P t) vs ∧ K (.v (.agg vs.toArray)) s.esc (some fun w => CellsOf w ad (sizeT P t) vs)) False)
    (exC (cty (undL P t)) fun v => s.w.cell? ad = some v ∧ K (.v v) s.esc (some fun w => w.cell? ad = some v))
def loadC (P : Program) (t : TypeId) (x : SV) (s : St) (K : YK) : Prop :=
  cond (undL P t).isSome
    (match x with
     | .p b j off =>
       match nth s.chs j with
       | none => False
       | some c =>
         cond (isAggT P t)
           (match cond (hasInfo P t) (getCells c.cells off (sizeT P t)) none with
            | some xs => K (.v (.agg (xs.map SV.val).toArray)) (xs.flatMap svJ ++ s.esc) (some fun w => CellsAt w ⟨b, off, none⟩ 0 (xs.map SV.val))
            | none => ldRaw P t ⟨b, off, none⟩ s K)
           (match lk c.cells off with
            | some x => K x s.esc (some fun w => w.cell? ⟨b, off, none⟩ = some x.val)
            | none => ldRaw P t ⟨b, off, none⟩ s K)
     | .v (.pointer q) => Ptr q fun ad => ldRaw P t ad s K
     | _ => False) False

/-- A value of one cell. -/
def OneC (x : Value) (K : Prop) : Prop := match x with | .agg _ => False | .tuple _ => False | _ => K
def stCells (b j : Nat) : Nat → List SV → List Ch → World → Option (List Ch × World)
  | _, [], chs, w => some (chs, w)
  | off, x :: r, chs, w =>
    match nth chs j with
    | some c => match lk c.cells off with
      | some _ => stCells b j (off + 1) r (updCh chs j off x) (w.setCell ⟨b, off, none⟩ x.val)
      | none => none
    | none => none
def oneCs : List SV → Prop → Prop
  | [], K => K
  | .p _ _ _ :: r, K => oneCs r K
  | .v x :: r, K => OneC x (oneCs r K)
def stRaw (ad : Addr) : Nat → List Value → St → (St → Prop) → Prop
  | _, [], s, K => K s
  | i, v :: r, s, K => (∃ u, s.w.cell? (ad.add i) = some u) ∧ s.w.frozen? (ad.add i) = false ∧ apartAll (ad.add i) s.chs (stRaw ad (i + 1) r { s with w := s.w.setCell (ad.add i) v } K)
def svCells : SV → List SV
  | .v (.agg cs) => cs.toList.map SV.v
  | x => [x]
def storeC (P : Program) (t : TypeId) (x y : SV) (s : St) (K : SV → St → Prop) : Prop :=
  cond (Nat.beq (svCells y).length (sizeT P t) && hasInfo P t)
    (oneCs (svCells y)
      (match x with
       | .p b j off =>
         match stCells b j off (svCells y) s.chs s.w with
         | some (chs, w) => K (.v undef) { s with chs := chs, w := w }
         | none => stRaw ⟨b, off, none⟩ 0 ((svCells y).map SV.val) { s with esc := svJ y ++ s.esc } fun s' => K (.v undef) s'
       | .v (.pointer q) => Ptr q fun ad => stRaw ad 0 ((svCells y).map SV.val) { s with esc := svJ y ++ s.esc } fun s' => K (.v undef) s'
       | _ => False)) False

def asI : SV → Option Int
  | .v (.int _ n) => some n
  | _ => none
/-- A slice expression's bounds, in the order in which they are looked at: each within the one before. -/
def boundC (x : Option SV) (y : Nat) (d : Nat) (K : Nat → Prop) : Prop :=
  match x with
  | none => K d
  | some a => match asI a with | some i => (0 ≤ i ∧ i ≤ y) ∧ K i.toNat | none => False
def optLook (s : St) : Option Operand → Option (Option SV)
  | none => some none
  | some x => match look s x with | some a => some (some a) | none => none
def sliceC (P : Program) (t : TypeId) (x : SV) (lo hi mx : Option SV) (K : SV → Prop) : Prop :=
  match undL P t, x with
  | some (.slice e), .v (.slice a n c) =>
    cond (hasInfo P e)
      (match mx, hi with
       | some _, none => False
       | _, _ => boundC mx c c fun m => boundC hi (match mx with | some _ => m | none => c) n fun h => boundC lo h 0 fun l => K (.v (.slice (cutA a m l (sizeT P e)) (h - l) (m - l)))) False
  | some .string, .v (.string str) => match mx with | some _ => False | none => boundC hi str.size str.size fun h => boundC lo h 0 fun l => K (.v (.string (str.extract l h)))
  | some (.array n e), .p b _ off =>
    cond (hasInfo P e) (match mx with
      | some _ => False
      | none => boundC hi n n fun h => boundC lo h 0 fun l => K (.v (.slice (cutA (some ⟨b, off, none⟩) n l (sizeT P e)) (h - l) (n - l)))) False
  | _, _ => False

def fieldOf (P : Program) (t : TypeId) (f : Nat) : Option Field := match undL P t with | some (.struct fs) => nth fs.toList f | _ => none
def fieldAddrC (P : Program) (t : TypeId) (x : SV) (f : Nat) (K : SV → Prop) : Prop :=
  match fieldOf P t f with
  | none => False
  | some fd => cond (hasInfo P fd.type && Nat.blt 0 (sizeT P fd.type))
    (match x with
     | .p b j off => K (.p b j (off + fd.offset))
     | .v (.pointer q) => Ptr q fun a => K (.v (.pointer (some (a.add fd.offset))))
     | _ => False) False
def constIx : Operand → Option Nat
  | .const (.int _ (.ofNat n)) => some n
  | _ => none
def indexAddrC (P : Program) (t : TypeId) (x ix : SV) (ci : Option Nat) (K : SV → Prop) : Prop :=
  match asI ix with
  | none => False
  | some i =>
    match undL P t, x with
    | some (.slice e), .v (.slice q n _) => cond (hasInfo P e) ((0 ≤ i ∧ i < n) ∧ Ptr q fun a => K (.v (.pointer (some (a.add (i.toNat * sizeT P e)))))) False
    | some (.array n e), .p b j off =>
      cond (hasInfo P e)
        (match ci with
         | some c => cond (Nat.blt c n) (i = c ∧ K (.p b j (off + c * sizeT P e))) False
         | none => (0 ≤ i ∧ i < n) ∧ K (.v (.pointer (some ((⟨b, off, none⟩ : Addr).add (i.toNat * sizeT P e)))))) False
    | some (.array n e), .v (.pointer q) => cond (hasInfo P e) ((0 ≤ i ∧ i < n) ∧ Ptr q fun a => K (.v (.pointer (some (a.add (i.toNat * sizeT P e)))))) False
    | _, _ => False
def indexC (P : Program) (t : TypeId) (x ix : SV) (K : SV → Prop) : Prop :=
  match asI ix with
  | none => False
  | some i =>
    match undL P t, x with
    | some .string, .v (.string str) => (0 ≤ i ∧ i < str.size) ∧ K (.v (.int .u8 (byteAt str i)))
    | some (.array n e), .v (.agg cs) =>
      cond (isAggT P e) False (cond (Nat.beq (sizeT P e) 1 && hasInfo P e && (undL P e).isSome) ((0 ≤ i ∧ i < n) ∧ exC (cty (undL P e)) fun v => nth cs.toList i.toNat = some v ∧ K (.v v)) False)
    | _, _ => False

def setN {α : Type} : List α → Nat → α → List α
  | [], _, _ => []
  | _ :: r, 0, x => x :: r
  | y :: r, n + 1, x => y :: setN r n x
def setNs {α : Type} (l : List α) : Nat → List α → List α
  | _, [] => l
  | o, x :: r => setNs (setN l o x) (o + 1) r
def cellsL : Value → List Value
  | .agg cs => cs.toList
  | v => [v]
def fillC (place : Nat → Option (Nat × Nat)) (cells : List Value) : List (Nat × Value) → Option (List Value)
  | [] => some cells
  | (i, v) :: rest =>
    match place i with
    | none => none
    | some (off, size) =>
      cond (Nat.beq (cellsL v).length size && Nat.ble (off + (cellsL v).length) cells.length)
        (fillC place (setNs cells off (cellsL v)) rest) none
def placeC (P : Program) (fs : List Field) (i : Nat) : Option (Nat × Nat) := match nth fs i with | some f => some (f.offset, sizeT P f.type) | none => none
def buildC (P : Program) (t : TypeId) (parts : List (Nat × Value)) : Option (List Value) :=
  match undL P t with
  | some (.struct fs) => cond (fs.toList.all fun f => hasInfo P f.type) (fillC (placeC P fs.toList) (zeroC P t).toList parts) none
  | some (.array _ e) => cond (hasInfo P e) (fillC (fun i => some (i * sizeT P e, sizeT P e)) (zeroC P t).toList parts) none
  | _ => none
def repL {α : Type} (z : List α) : Nat → List α
  | 0 => []
  | n + 1 => z ++ repL z n
def buildSliceC (P : Program) (t : TypeId) (len : Nat) (parts : List (Nat × Value)) : Option (TypeId × List Value) :=
  match undL P t with
  | some (.slice e) =>
    cond (hasInfo P e && hasZero P e && Nat.ble (len * sizeT P e) 64 && Nat.blt 0 (len * sizeT P e) && Nat.beq (zeroC P e).toList.length (sizeT P e))
      (match fillC (fun i => some (i * sizeT P e, sizeT P e)) (repL (zeroC P e).toList len) parts with | some cs => some (e, cs) | none => none) none
  | _ => none

def Rets (P : Program) (f : FuncId) (args : Array Value) (w : World) (R : Value → World → Prop) : Prop :=
  Calls P f args w fun e w' => ∃ v, e = .returned v ∧ R v w'
def isGo (P : Program) (f : FuncId) : Bool := match funcL P f with | some fn => fn.body.isSome | none => false
/-- A call of a function that has no body: the model's own. -/
def RetsX (P : Program) (f : FuncId) (args : Array Value) (w : World) (R : Value → World → Prop) : Prop :=
  ∃ v w', (callFunc f args).run P w = .ok (.value v) w' ∧ R v w'
/-- A call of a function value. -/
def CallsVal (P : Program) (f : Value) (args : Array Value) (w : World) (R : Value → World → Prop) : Prop :=
  match f with
  | .func (.func k) first cap => isGo P k = true ∧ Rets P k (first ++ args ++ cap) w R
  | .func (.yield l) first _ => ∃ fn tmps assign body, (Instr.yield l (first ++ args)).run P w = .ok (.round l fn tmps assign body) w ∧
      RoundIn Fence.wide 0 P l fn tmps assign body w fun e w' => ∃ v, e = .returned v ∧ R v w'
  | _ => False
def maxI (a b : Int) : Int := if b > a then b else a
def minI (a b : Int) : Int := if b < a then b else a

def rawV (P : Program) (m : Sem Value) (t : TypeId) (s : St) (K : SV → St → Prop) : Prop :=
  Runs P m s.w fun v w' => exOp P t fun y => v = y ∧ behind s [] w' fun s' => K (.v y) s'
def rawU (P : Program) (m : Sem Unit) (s : St) (K : SV → St → Prop) : Prop :=
  Runs P m s.w fun _ w' => behind s [] w' fun s' => K (.v undef) s'

/-- An iterator over a string or a map. -/
def rangeC (P : Program) (t : TypeId) (x : SV) (s : St) (K : SV → St → Prop) : Prop :=
  Runs P (Instr.range t x.val) s.w fun v w' => ∃ q : Option Addr, v = .pointer q ∧ behind s [] w' fun s' => K (.v (.pointer q)) s'
/-- A string's next code point, a map's next entry, or none. -/
def nextC (P : Program) (it : SV) (isS : Bool) (ty t : TypeId) (s : St) (K : SV → St → Prop) : Prop :=
  cond isS (Runs P (Instr.next it.val true ty) s.w fun v w' =>
      (v = .tuple #[.bool false] ∧ behind s [] w' fun s' => K (.v (.tuple #[.bool false])) s') ∨
      (∃ i c : Int, v = .tuple #[.bool true, .int .i64 i, .int .i32 c] ∧ behind s [] w' fun s' => K (.v (.tuple #[.bool true, .int .i64 i, .int .i32 c])) s'))
    (Runs P (Instr.next it.val false ty) s.w fun v w' =>
      (v = .tuple #[.bool false] ∧ behind s [] w' fun s' => K (.v (.tuple #[.bool false])) s') ∨
      (∃ i c : Value, v = .tuple #[.bool true, i, c] ∧ behind s [] w' fun s' => K (.v (.tuple #[.bool true, i, c])) s'))

/-- The key and the value of the entry that came last. -/
def entryC (P : Program) (it : SV) (s : St) (K : SV → St → Prop) : Prop :=
  Runs P (Instr.entry it.val) s.w fun v w' => ∃ i c : Value, v = .tuple #[i, c] ∧ behind s [] w' fun s' => K (.v (.tuple #[i, c])) s'
def asSV : Option (Option SV) → Option SV
  | some x => x
  | none => none

def builtinY (P : Program) (b : Builtin) (ats : Array TypeId) (args : List SV) (K : SV → Prop) : Prop :=
  match b, args with
  | .len, [.v (.string str)] => match nth ats.toList 0 with | some a => (match undL P a with | some .string => K (.v (.int .i64 str.size)) | _ => False) | none => False
  | .len, [.v (.slice _ n _)] => match nth ats.toList 0 with | some a => (match undL P a with | some (.slice _) => K (.v (.int .i64 n)) | _ => False) | none => False
  | .len, [_] => match nth ats.toList 0 with
    | some a => (match undL P a with
      | some (.array n _) => K (.v (.int .i64 n))
      | _ => False)
    | none => False
  | .min, [.v (.int k a), .v (.int _ b)] => K (.v (.int k (minI a b)))
  | .max, [.v (.int k a), .v (.int _ b)] => K (.v (.int k (maxI a b)))
  | _, _ => False
def builtinE (P : Program) (b : Builtin) (ats : Array TypeId) (t : TypeId) (args : List SV) (s : St) (K : SV → St → Prop) : Prop :=
  match b, args with
  | .len, [x] => rawV P (Builtin.len_ ats t #[x.val]) t s K
  | .append, [x, y] => rawV P (Builtin.append_ ats t #[x.val, y.val]) t s K
  | .copy, [x, y] => rawV P (Builtin.copy_ ats t #[x.val, y.val]) t s K
  | .cap, [x] => rawV P (Builtin.cap_ ats t #[x.val]) t s K
  | .delete, [x, y] => rawV P (Builtin.delete_ ats t #[x.val, y.val]) t s K
  | .min, [x, y, z] => rawV P (Builtin.min_ ats t #[x.val, y.val, z.val]) t s K
  | .max, [x, y, z] => rawV P (Builtin.max_ ats t #[x.val, y.val, z.val]) t s K
  | .clear, [x] => rawV P (Builtin.clear_ ats t #[x.val]) t s K
  | _, _ => False

def svs (s : St) : List Operand → Option (List SV)
  | [] => some []
  | x :: r => match look s x, svs s r with | some a, some l => some (a :: l) | _, _ => none

/-- A function value of which the code doesn't say which function it is. -/
def dynamic : Operand → Bool
  | .tmp _ => true
  | _ => false
def callC (P : Program) (c : Call) (t : TypeId) (s : St) (K : SV → St → Prop) : Prop :=
  match svs s c.args.toList with
  | none => False
  | some args =>
    match c.callee with
    | .builtin b => builtinE P b c.argTypes t args s K
    | .invoke _ _ => False
    | .value f =>
      match dynamic f, look s f with
      | false, some (.v (.func (.func k) first cap)) =>
        cond (isGo P k)
          (match funcL P k with
           | some fn => knownK s.w (knowns s.chs) <| Rets P k (first ++ (args.map SV.val).toArray ++ cap) s.w fun v w' =>
               exRes P fn.resultTypes.toList fun y => v = y ∧ behind s (reach s.chs s.chs.length (args.flatMap svJ ++ s.esc)) w' fun s' => K (.v y) s'
           | none => False)
          (match funcL P k with
           | some fn => knownK s.w (knowns s.chs) <| RetsX P k (first ++ (args.map SV.val).toArray ++ cap) s.w fun v w' =>
               exRes P fn.resultTypes.toList fun y => v = y ∧ behind s (reach s.chs s.chs.length (args.flatMap svJ ++ s.esc)) w' fun s' => K (.v y) s'
           | none => False)
      | true, some (.v fv) => knownK s.w (knowns s.chs) <| CallsVal P fv (args.map SV.val).toArray s.w fun v w' =>
          exOp P t fun y => v = y ∧ behind s (reach s.chs s.chs.length (args.flatMap svJ ++ s.esc)) w' fun s' => K (.v y) s'
      | _, _ => False

/-- Is a 'len' a reading of the world? -/
def lenReads (P : Program) (c : Call) : Bool :=
  match nth c.argTypes.toList 0 with
  | some a => (match undL P a with | some (.map _ _) => true | some (.chan _ _) => true | some (.pointer _) => true | none => true | _ => false)
  | none => true
/-- Operations that leave the world as it is. -/
def isY (P : Program) (o : Oper) : Bool :=
  match o.op with
  | .move _ | .assign _ | .pick _ _ _ | .load _ _ | .nilCheck _ | .binOp _ _ _ _ _ | .unOp _ _ _ | .makeFunc _ _ _ | .slice _ _ _ _ _
  | .fieldAddr _ _ _ | .field _ _ _ | .indexAddr _ _ _ | .index _ _ _ | .extract _ _ => true
  | .convert src dst _ => match undL P src, undL P dst with
    | some _, some (.int _) => true
    | some .string, some .string => true
    | some (.slice e), some .string => (match undL P e with | some (.int .u8) => true | _ => false)
    | _, _ => false
  | .build t _ => few P t && hasZero P t
  | .call c => match c.callee with
    | .builtin .len => !lenReads P c
    | .builtin .min | .builtin .max => Nat.beq c.args.size 2
    | _ => false
  | _ => false

def yC (P : Program) (o : Oper) (s : St) (K : YK) : Prop :=
  match o.op with
  | .move x => match look s x with | some a => K a s.esc none | none => False
  | .assign x => match look s x with | some a => K a s.esc none | none => False
  | .pick c a b => match look s c with
    | some (.v (.bool t)) => cond t (match look s a with | some a => K a s.esc none | none => False) (match look s b with | some a => K a s.esc none | none => False)
    | _ => False
  | .load t a => match look s a with | some x => loadC P t x s K | none => False
  | .nilCheck x => match look s x with
    | some (.p b j off) => K (.p b j off) s.esc none
    | some (.v (.pointer q)) => Ptr q fun a => K (.v (.pointer (some a))) s.esc none
    | some (.v (.func (.func f) fs cp)) => K (.v (.func (.func f) fs cp)) s.esc none
    | some (.v (.func (.yield f) fs cp)) => K (.v (.func (.yield f) fs cp)) s.esc none
    | _ => False
  | .binOp op t x y _ => match look s x, look s y with | some a, some b => binC P op t a b fun v => K (.v v) s.esc none | _, _ => False
  | .unOp op _ x => match op, look s x with
    | .neg, some (.v (.int k n)) => Wr k (0 - n) fun r => K (.v (.int k r)) s.esc none
    | .xor, some (.v (.int k n)) => K (.v (.int k (xorI k (cond k.signed (-1) k.max) n))) s.esc none
    | .not, some (.v (.bool b)) => K (.v (.bool (!b))) s.esc none
    | _, _ => False
  | .convert src dst x => match undL P src, undL P dst, look s x with
    | some _, some (.int k), some (.v (.int _ n)) => Wr k n fun r => K (.v (.int k r)) s.esc none
    | some .string, some .string, some (.v (.string b)) => K (.v (.string b)) s.esc none
    | some (.slice e), some .string, some (.v (.slice a n _)) =>
      (match undL P e with
       | some (.int .u8) => ∃ str : ByteArray, str.size = n ∧ BytesAt s.w a str ∧ K (.v (.string str)) s.esc (some fun w => BytesAt w a str)
       | _ => False)
    | _, _, _ => False
  | .makeFunc fn first cap => match svs s first.toList, svs s cap.toList with
    | some f, some c => K (.v (.func fn (f.map SV.val).toArray (c.map SV.val).toArray)) (f.flatMap svJ ++ c.flatMap svJ ++ s.esc) none
    | _, _ => False
  | .slice t x lo hi mx => match look s x, optLook s lo, optLook s hi, optLook s mx with
    | some x, some lo, some hi, some mx => sliceC P t x lo hi mx fun v => K v (svJ x ++ s.esc) none
    | _, _, _, _ => False
  | .fieldAddr t x f => match look s x with | some x => fieldAddrC P t x f fun v => K v s.esc none | none => False
  | .field t x f => match look s x, fieldOf P t f with
    | some (.v (.agg cs)), some fd => (match partC P fd.type cs.toList fd.offset with | some v => cond (hasInfo P fd.type && (undL P fd.type).isSome) (K (.v v) s.esc none) False | none => False)
    | _, _ => False
  | .indexAddr t x i => match look s x, look s i with | some x, some y => indexAddrC P t x y (constIx i) fun v => K v (svJ x ++ s.esc) none | _, _ => False
  | .index t x i => match look s x, look s i with | some x, some y => indexC P t x y fun v => K v s.esc none | _, _ => False
  | .build t parts => match svs s (parts.toList.map (·.2)) with
    | some vs => (match buildC P t ((parts.toList.map (·.1)).zip (vs.map SV.val)) with | some cs => K (.v (.agg cs.toArray)) (vs.flatMap svJ ++ s.esc) none | none => False)
    | none => False
  | .extract x i => match look s x with | some (.v (.tuple vs)) => (match nth vs.toList i with | some v => K (.v v) s.esc none | none => False) | _ => False
  | .call c => match svs s c.args.toList, c.callee with
    | some args, .builtin b => builtinY P b c.argTypes args fun v => K v s.esc none
    | _, _ => False
  | _ => False

def eC (P : Program) (o : Oper) (s : St) (K : SV → St → Prop) : Prop :=
  match o.op with
  | .alloc e => cond (hasZero P e) (cond (few P e) (newCh s ((zeroC P e).toList.map SV.v) e K) (newBig s (zeroA P e) e K)) False
  | .box e x => match look s x with
    | some y => cond (few P e) (newCh s (svCells y) e K) (match y with | .v z => newBig s z.cells e K | _ => False)
    | none => False
  | .store t a x => match look s a, look s x with
    | some a, some y => cond (few P t) (storeC P t a y s K) (rawU P (Instr.storeAt t a.val y.val) { s with esc := svJ y ++ s.esc } K)
    | _, _ => False
  | .convert src dst x => match look s x with
    | some y => rawV P (convert src dst y.val) o.type s K
    | none => False
  | .makeMap _ none => K (.v (.map (some s.w.heap.size))) { s with w := s.w.alloc (.map #[] 0) }
  | .makeSlice t l c => match look s l, look s c with
    | some l, some c => rawV P (Instr.makeSlice t l.val c.val) o.type s K
    | _, _ => False
  | .build t parts => match svs s (parts.toList.map (·.2)) with
    | some vs => rawV P (Instr.build t ((parts.toList.map (·.1)).zip (vs.map SV.val)).toArray) o.type { s with esc := vs.flatMap svJ ++ s.esc } K
    | none => False
  | .buildSlice t len parts => match svs s (parts.toList.map (·.2)) with
    | some vs => (match buildSliceC P t len ((parts.toList.map (·.1)).zip (vs.map SV.val)) with
      | some (e, cs) => K (.v (.slice (some ⟨s.w.heap.size, 0, none⟩) len len)) { s with esc := vs.flatMap svJ ++ s.esc, w := s.w.alloc (.cells cs.toArray e) }
      | none => rawV P (Instr.buildSlice t len ((parts.toList.map (·.1)).zip (vs.map SV.val)).toArray) o.type { s with esc := vs.flatMap svJ ++ s.esc } K)
    | none => False
  | .lookup t m k ok => match look s m, look s k with | some m, some k => rawV P (Instr.lookup t m.val k.val ok) o.type s K | _, _ => False
  | .mapUpdate t m k x => match look s m, look s k, look s x with | some m, some k, some x => rawU P (Instr.mapUpdate t m.val k.val x.val) s K | _, _, _ => False
  | .range t x => match look s x with | some x => rangeC P t x s K | none => False
  | .next it isS => match look s it with | some x => nextC P x isS o.type o.type s K | none => False
  | .entry it => match look s it with | some x => entryC P x s K | none => False
  | .call c => callC P c o.type s K
  | _ => False

def vcOp (P : Program) (o : Oper) (s : St) (K : SV → St → Prop) : Prop :=
  cond (isY P o) (yC P o s fun x e _ => K x { s with esc := e }) (eC P o s K)

end Go.SX
namespace Go.SX

/-! ### Regions -/
def putE (env : List (Nat × SV)) (d : Option Tmp) (x : SV) : List (Nat × SV) :=
  match d with
  | some d => (d, x) :: env
  | none => env
def putS (s : St) (d : Option Tmp) (x : SV) : St := { s with env := putE s.env d x }
def dstOk (N : Nat) (o : Oper) : Bool := match o.dst with | some d => Nat.blt d N | none => true
/-- The slot that an operation's guard looks at. -/
def gslot (ops : List Oper) (j : Nat) : Option Nat := match nth ops j with | some o => o.dst | none => none
def guardC (ops : List Oper) (o : Oper) (s : St) (run skip : St → Prop) : Prop :=
  match o.guard with
  | none => run s
  | some (j, want) =>
    match gslot ops j with
    | none => False
    | some d =>
      match lk s.env d with
      | some (.v (.bool g)) =>
        cond g (cond want (run { s with env := (d, .v (.bool true)) :: s.env }) (skip { s with env := (d, .v (.bool true)) :: s.env }))
          (cond want (skip { s with env := (d, .v (.bool false)) :: s.env }) (run { s with env := (d, .v (.bool false)) :: s.env }))
      | some (.v (.tuple _)) => skip s
      | _ => False
def plainOp (o : Oper) : Bool := match o.op with | .defer _ => false | .select _ _ => false | .go _ => false | _ => true

def vcOps (P : Program) (N : Nat) (ops : List Oper) : List Oper → St → (St → Prop) → Prop
  | [], s, K => K s
  | o :: r, s, K =>
    cond (dstOk N o && plainOp o)
      (guardC ops o s (fun s => vcOp P o s fun x s' => vcOps P N ops r (putS s' o.dst x) K) (fun s => vcOps P N ops r (putS s o.dst (.v undef)) K)) False

/-! ### A region that draws its order: what leaves the world alone is taken first, then whatever may come -/
def bindsAny (e : Edge) : Bool := match e.ground with | .textOnly _ => false | .gcOnly _ => false | _ => true
def maskOf (o : Oper) : Nat := o.after.toList.foldl (fun m e => cond (bindsAny e) (m ||| 2 ^ e.on) m) 0
def preGo : List Oper → List Nat → List Nat
  | [], acc => acc
  | o :: r, acc => preGo r (acc ++ [o.after.toList.foldl (fun m e => cond (bindsAny e) (m ||| 2 ^ e.on ||| (match nth acc e.on with | some q => q | none => 0)) m) 0])
def preOf (ops : List Oper) : List Nat := preGo ops []
def bitOf (m i : Nat) : Bool := Nat.beq ((m >>> i) % 2) 1
/-- Those that may come now. -/
def rdy : Nat → List Oper → Nat → List Nat
  | _, [], _ => []
  | i, o :: r, done => cond (!bitOf done i && Nat.beq (Nat.land (maskOf o) done) (maskOf o)) (i :: rdy (i + 1) r done) (rdy (i + 1) r done)
def findY (P : Program) (ops : List Oper) : List Nat → Option Nat
  | [] => none
  | i :: r => match nth ops i with | some o => cond (isY P o) (some i) (findY P ops r) | none => findY P ops r
abbrev Pend := List (Nat × (World → Prop))
/-- What was read and need not come before this operation must be there behind it. -/
def stays (pre : Nat) (w : World) : Pend → Prop → Prop
  | [], K => K
  | (i, G) :: r, K => cond (bitOf pre i) (stays pre w r K) (G w ∧ stays pre w r K)
def addP (i : Nat) (G : Option (World → Prop)) (p : Pend) : Pend := match G with | some g => (i, g) :: p | none => p
def allN : List Nat → (Nat → Prop) → Prop
  | [], _ => True
  | [i], K => K i
  | i :: r, K => K i ∧ allN r K
def preAt (pres : List Nat) (i : Nat) : Nat := match nth pres i with | some m => m | none => 0
def vcDraw (P : Program) (N : Nat) (ops : List Oper) (pres : List Nat) : Nat → Nat → Pend → St → (St → Prop) → Prop
  | 0, _, _, _, _ => False
  | f + 1, done, pend, s, K =>
    match rdy 0 ops done with
    | [] => K s
    | i :: rs =>
      match findY P ops (i :: rs) with
      | some y =>
        match nth ops y with
        | some o => guardC ops o s
            (fun s => yC P o s fun x e G => vcDraw P N ops pres f (done ||| 2 ^ y) (addP y G pend) (putS { s with esc := e } o.dst x) K)
            (fun s => vcDraw P N ops pres f (done ||| 2 ^ y) pend (putS s o.dst (.v undef)) K)
        | none => False
      | none =>
        allN (i :: rs) fun i =>
          match nth ops i with
          | some o => guardC ops o s
              (fun s => eC P o s fun x s' => stays (preAt pres i) s'.w pend (vcDraw P N ops pres f (done ||| 2 ^ i) pend (putS s' o.dst x) K))
              (fun s => vcDraw P N ops pres f (done ||| 2 ^ i) pend (putS s o.dst (.v undef)) K)
          | none => False
/-- The temporaries that an operation names: its operands, its guard. -/
def looksC (ops : List Oper) (o : Oper) : List Nat :=
  (o.op.operands.toList.flatMap fun x => match x with | .tmp t => [t] | _ => []) ++
  (match o.guard with | some (g, _) => (match gslot ops g with | some d => [d] | none => []) | none => [])
def edgesOk : Nat → List Oper → Bool
  | _, [] => true
  | i, o :: r => (o.after.toList.all fun e => !bindsAny e || Nat.blt e.on i) && edgesOk (i + 1) r
def ordB (pres : List Nat) (i j : Nat) : Bool := bitOf (preAt pres i) j || bitOf (preAt pres j) i
/-- Operation j writes slot d: whoever looks at d, or writes it, is ordered with it. -/
def slotOk (ops : List Oper) (pres : List Nat) (j d : Nat) : Nat → List Oper → Bool
  | _, [] => true
  | i, o :: r =>
    (Nat.beq i j || (!(memN d (looksC ops o)) || ordB pres i j) && (match o.dst with | some d' => !Nat.beq d' d | none => true)) && slotOk ops pres j d (i + 1) r
def slotsOk (ops : List Oper) (pres : List Nat) : Nat → List Oper → Bool
  | _, [] => true
  | j, o :: r => (match o.dst with | some d => slotOk ops pres j d 0 ops | none => true) && slotsOk ops pres (j + 1) r
def regOk (N : Nat) (ops : List Oper) (pres : List Nat) : Bool :=
  edgesOk 0 ops && slotsOk ops pres 0 ops && ops.all fun o => dstOk N o && plainOp o

/-! ### Code -/
structure LoopAnn where
  /-- the slots that a round hands on, and their shapes -/
  carried : List (Nat × CTy)
  /-- the slots that no round writes -/
  keep : List Nat
  /-- the known cells that a round may change: chunk, cell, shape -/
  cells : List (Nat × Nat × CTy)

def slotVals (env : List (Nat × SV)) : List (Nat × CTy) → Option (List Value)
  | [] => some []
  | (i, _) :: r => match lk env i, slotVals env r with | some x, some l => some (x.val :: l) | _, _ => none
def cellVals (chs : List Ch) : List (Nat × Nat × CTy) → Option (List Value)
  | [] => some []
  | (j, o, _) :: r =>
    match nth chs j with
    | some c => (match lk c.cells o, cellVals chs r with | some x, some l => some (x.val :: l) | _, _ => none)
    | none => none
def keepEnv (env : List (Nat × SV)) : List Nat → List (Nat × SV)
  | [] => []
  | i :: r => match lk env i with | some x => (i, x) :: keepEnv env r | none => keepEnv env r
def setCells : List Ch → List (Nat × Nat × CTy) → List Value → List Ch
  | chs, (j, o, _) :: r, v :: vs => setCells (updCh chs j o (.v v)) r vs
  | chs, _, _ => chs
def isCarried (cells : List (Nat × Nat × CTy)) (j o : Nat) : Bool :=
  match cells with
  | [] => false
  | (j', o', _) :: r => (Nat.beq j' j && Nat.beq o' o) || isCarried r j o
/-- The values of the cells that are not carried. -/
def restC (cells : List (Nat × Nat × CTy)) (j : Nat) : List (Nat × SV) → List Value
  | [] => []
  | (o, x) :: r => cond (isCarried cells j o) (restC cells j r) (x.val :: restC cells j r)
def restVals (cells : List (Nat × Nat × CTy)) : Nat → Nat → List Ch → List Value
  | 0, _, _ => []
  | _, _, [] => []
  | n + 1, j, c :: r => restC cells j c.cells ++ restVals cells n (j + 1) r
/-- Slots that a piece of code writes. -/
def writesOps (n : Nat) : List Oper → Bool
  | [] => false
  | o :: r => (match o.dst with | some d => Nat.beq d n | none => false) || writesOps n r
def writes (n : Nat) : Code → Bool
  | .region _ ops _ => writesOps n ops.toList
  | .seq a b => writes n a || writes n b
  | .cond _ a b => writes n a || writes n b
  | .block _ a => writes n a
  | .loop a => writes n a
  | .rangeFunc _ ps a b => memN n ps.toList || writes n a || writes n b
  | .scope a => writes n a
  | _ => false
def firstReg : Code → Nat
  | .region id _ _ => id
  | .seq a _ => firstReg a
  | .block _ a => firstReg a
  | .loop a => firstReg a
  | .cond _ a _ => firstReg a
  | .scope a => firstReg a
  | _ => 0
def annAt (ann : List (Nat × LoopAnn)) (id : Nat) : LoopAnn :=
  match ann with
  | [] => ⟨[], [], []⟩
  | (i, a) :: r => cond (Nat.beq i id) a (annAt r id)

def defsK (a b : List Nat) (K : Prop) : Prop := match a, b with | [], [] => K | a, b => a = b ∧ K
def vcLoop (A : LoopAnn) (body : Code) (vc : (Exit → St → Prop) → St → Prop) (K : Exit → St → Prop) (s : St) : Prop :=
  let tys := A.carried.map (·.2) ++ A.cells.map (·.2.2)
  match slotVals s.env A.carried, cellVals s.chs A.cells with
  | some vs0, some cs0 =>
    cond (A.keep.all fun i => !writes i body)
      (∃ (I : FTy Prop tys) (m : FTy Nat tys), apF False tys I (vs0 ++ cs0) s.w ∧
        alCs (A.carried.map (·.2)) fun vs => alCs (A.cells.map (·.2.2)) fun cs => ∀ w : World,
          apF False tys I (vs ++ cs) w → (knownK w (knowns (setCells s.chs A.cells cs)) <|
          vc (fun e s' =>
              match e with
              | .normal =>
                (match slotVals s'.env A.carried, cellVals s'.chs A.cells with
                 | some vs', some cs' => defsK s'.defs s.defs <| sameK (restVals A.cells s.chs.length 0 s'.chs) (restVals A.cells s.chs.length 0 s.chs) <|
                     apF False tys I (vs' ++ cs') s'.w ∧ apF 0 tys m (vs' ++ cs') s'.w < apF 0 tys m (vs ++ cs) w
                 | _, _ => False)
              | e => K e s')
            { env := (A.carried.map (·.1)).zip (vs.map SV.v) ++ keepEnv s.env A.keep, chs := setCells s.chs A.cells cs, esc := s.esc, w := w, defs := s.defs })) False
  | _, _ => False

def Rel (N : Nat) (D : List Deferred) (s : St) (a : Act) : Prop :=
  a.tmps.size = N ∧ a.defers = D ∧ ∀ i x, lk s.env i = some x → a.tmps.getD i undef = x.val
structure Sat (s : St) : Prop where
  cell : ∀ j c, nth s.chs j = some c → ∀ o x, lk c.cells o = some x → s.w.cell? ⟨c.b, o, none⟩ = some x.val ∧ s.w.frozen? ⟨c.b, o, none⟩ = false
  keys : ∀ j c, nth s.chs j = some c → (c.cells.map (·.1)).Nodup
  lt : ∀ j c, nth s.chs j = some c → c.b < s.w.heap.size
  apart : ∀ i j c d, nth s.chs i = some c → nth s.chs j = some d → i ≠ j → c.b ≠ d.b
  wfE : ∀ i b j o, lk s.env i = some (.p b j o) → ∃ c, nth s.chs j = some c ∧ c.b = b
  wfC : ∀ k c o b j o', nth s.chs k = some c → lk c.cells o = some (.p b j o') → ∃ d, nth s.chs j = some d ∧ d.b = b
/-- The fence: everything, in a round of loop r or in none. -/
def fenceR (r : Option Nat) : Fence := { Fence.wide with round := r }
/-- Where the condition holds: some state that fits. -/
def Evo (c c' : List Ch) : Prop := ∀ j x, nth c j = some x → ∃ y, nth c' j = some y ∧ y.b = x.b ∧ y.cells.map (·.1) = x.cells.map (·.1)
/-- A later state and act: the known blocks are known, the slots but those of W hold what they held. -/
def Fr (W : Nat → Prop) (a0 a : Act) : Prop := ∀ i, ¬ W i → a.tmps.getD i undef = a0.tmps.getD i undef
def Ev (W : Nat → Prop) (s0 : St) (a0 : Act) (s : St) (a : Act) : Prop := Evo s0.chs s.chs ∧ Fr W a0 a
def markB (b : Nat) : Deferred := { target := .collected b, args := #[] }
def marks (l : List Nat) : List Deferred := l.map markB
def QK (N : Nat) (W : Nat → Prop) (s0 : St) (a0 : Act) (K : Exit → St → Prop) : Exit → Act → World → Prop :=
  fun e a w => ∃ s, Ev W s0 a0 s a ∧ Rel N (marks s.defs) s a ∧ Sat s ∧ s.w = w ∧ K e s

/-- Where a piece of code may leave to, and whether it may return. -/
def exitsOf : Code → List Nat
  | .exit id => [id]
  | .seq a b => exitsOf a ++ exitsOf b
  | .cond _ a b => exitsOf a ++ exitsOf b
  | .block id a => (exitsOf a).filter fun i => !Nat.beq i id
  | .loop a => exitsOf a
  | .scope a => exitsOf a
  | .rangeFunc _ _ a b => exitsOf a ++ exitsOf b
  | _ => []
def hasRet : Code → Bool
  | .ret => true
  | .seq a b => hasRet a || hasRet b
  | .cond _ a b => hasRet a || hasRet b
  | .block _ a => hasRet a
  | .loop a => hasRet a
  | .scope a => hasRet a
  | .rangeFunc _ _ a b => hasRet a || hasRet b
  | _ => false
def dedup : List Nat → List Nat
  | [] => []
  | x :: r => cond (memN x r) (dedup r) (x :: dedup r)
def nodupN : List Nat → Bool
  | [] => true
  | x :: r => !memN x r && nodupN r
def sameNs : List Nat → List Nat → Bool
  | [], [] => true
  | x :: r, y :: t => Nat.beq x y && sameNs r t
  | _, _ => false
/-- How a round ends: the record, and what yield hands back. -/
def roundEnd (l : Nat) (rec : LoopState → Option Code → Obj) (R : Value → World → Prop) : Exit → St → Prop := fun e s =>
  knownK s.w (knowns s.chs) <|
    match e with
    | .normal => s.w.heap[l]? = some (rec .busy none) ∧ R (.bool true) (s.w.putObj l (rec .ready none))
    | .ret => s.w.heap[l]? = some (rec .busy none) ∧ R (.bool false) (s.w.putObj l (rec .done (some .ret)))
    | .exit id => s.w.heap[l]? = some (rec .busy none) ∧ R (.bool false) (s.w.putObj l (rec .done (some (.exit id))))
    | _ => False
/-- How the statement is left: at the iterator's end, by the pending jump. -/
def rangeEnds (l : Nat) (rec : LoopState → Option Code → Obj) (s : Option Code → St) (w : World) (K : Exit → St → Prop) : List Nat → Bool → Prop
  | [], false => w.heap[l]? = some (rec .ready none) ∧ K .normal (s none)
  | [], true => (w.heap[l]? = some (rec .ready none) ∧ K .normal (s none)) ∨ (w.heap[l]? = some (rec .done (some .ret)) ∧ K .ret (s (some .ret)))
  | id :: r, t => (w.heap[l]? = some (rec .done (some (.exit id))) ∧ K (.exit id) (s (some (.exit id)))) ∨ rangeEnds l rec s w K r t
/-- The one call of a function value that is ranged over. -/
def RangeVal (P : Program) (fv y : Value) (w : World) (R : World → Prop) : Prop :=
  match fv with
  | .func (.func k) first cap => isGo P k = true ∧ Rets P k (first ++ #[y] ++ cap) w fun _ w' => R w'
  | _ => False
def joinAt (ann : List (Nat × LoopAnn)) (id : Nat) : Option LoopAnn :=
  match ann with
  | [] => none
  | (i, a) :: r => cond (Nat.beq i (id + 1000000)) (some a) (joinAt r id)
/-- All ways through a piece of code come together behind it. -/
def vcJoin (A : LoopAnn) (a : Code) (vcA vcB : (Exit → St → Prop) → St → Prop) (K : Exit → St → Prop) (s : St) : Prop :=
  let tys := A.carried.map (·.2) ++ A.cells.map (·.2.2)
  match cellVals s.chs A.cells with
  | some _ =>
    cond (A.keep.all fun i => !writes i a)
      (∃ I : FTy Prop tys,
        (alCs (A.carried.map (·.2)) fun vs => alCs (A.cells.map (·.2.2)) fun cs => ∀ w : World,
          apF False tys I (vs ++ cs) w → (knownK w (knowns (setCells s.chs A.cells cs)) <|
            vcB K { env := (A.carried.map (·.1)).zip (vs.map SV.v) ++ keepEnv s.env A.keep, chs := setCells s.chs A.cells cs, esc := s.esc, w := w, defs := s.defs })) ∧
        vcA (fun e s' => match e with
          | .normal =>
            (match slotVals s'.env A.carried, cellVals s'.chs A.cells with
             | some vs', some cs' => defsK s'.defs s.defs <| sameK (restVals A.cells s.chs.length 0 s'.chs) (restVals A.cells s.chs.length 0 s.chs) <| apF False tys I (vs' ++ cs') s'.w
             | _, _ => False)
          | e => K e s') s) False
  | none => False
def vcRange (P : Program) (N : Nat) (r : Option Nat) (A : LoopAnn) (g : Operand) (ps : List Nat) (exits : List Nat) (ret : Bool) (vcA vcB : Nat → (Exit → St → Prop) → St → Prop) (K : Exit → St → Prop) (s : St) : Prop :=
  match r, look s g with
  | none, some (.v fv) =>
    cond (sameNs (A.carried.map (·.1)) ps && nodupN ps && ps.all (fun i => Nat.blt i N) && (cellVals s.chs A.cells).isSome)
      (knownK s.w (knowns s.chs) <| ∀ rec : LoopState → Option Code → Obj, (∀ a b, (rec a b).isCells = false) →
        (alCs (A.carried.map (·.2)) fun vs => alCs (A.cells.map (·.2.2)) fun cs => ∀ (w : World) (R : Value → World → Prop), w.heap[s.w.heap.size + 1]? = some (rec .ready none) → Known w (knowns (setCells s.chs A.cells cs)) →
          vcA (s.w.heap.size + 1) (fun e s' => match e with
            | .normal => s'.w.heap[s.w.heap.size + 1]? = some (rec .ready none) ∧ vcB (s.w.heap.size + 1) (roundEnd (s.w.heap.size + 1) rec R) { s' with w := s'.w.putObj (s.w.heap.size + 1) (rec .busy none) }
            | _ => False)
            { env := ps.zip (vs.map SV.v) ++ s.env, chs := setCells s.chs A.cells cs, esc := s.esc, w := w, defs := [] } →
          CallsVal P (.func (.yield (s.w.heap.size + 1)) #[] #[]) vs.toArray w R) →
        RangeVal P fv (.func (.yield (s.w.heap.size + 1)) #[] #[]) ((s.w.alloc (.deferred (some []))).alloc (rec .ready none)) fun w2 =>
          exCs (A.cells.map (·.2.2)) fun cs => Known w2 (knowns (setCells s.chs A.cells cs)) ∧
            rangeEnds (s.w.heap.size + 1) rec (fun p => { s with chs := setCells s.chs A.cells cs, w := w2.putObj (s.w.heap.size + 1) (rec .exhausted p), defs := s.w.heap.size :: s.defs }) w2 K (dedup exits) ret) False
  | _, _ => False
def vcCode (P : Program) (N : Nat) (r : Option Nat) (ann : List (Nat × LoopAnn)) : Code → (Exit → St → Prop) → St → Prop
  | .skip, K, s => K .normal s
  | .label _, K, s => K .normal s
  | .exit id, K, s => K (.exit id) s
  | .ret, K, s => K .ret s
  | .seq a b, K, s =>
    match joinAt ann (firstReg b) with
    | some A => vcJoin A a (vcCode P N r ann a) (vcCode P N r ann b) K s
    | none => vcCode P N r ann a (fun e s' => match e with | .normal => vcCode P N r ann b K s' | e => K e s') s
  | .cond c x y, K, s =>
    match look s c with
    | some (.v (.bool t)) => cond t (vcCode P N r ann x K s) (vcCode P N r ann y K s)
    | _ => False
  | .block id c, K, s => vcCode P N r ann c (fun e s' => match e with | .exit i => cond (Nat.beq i id) (K .normal s') (K (.exit i) s') | e => K e s') s
  | .loop body, K, s => vcLoop (annAt ann (firstReg body)) body (vcCode P N r ann body) K s
  | .region _ ops false, K, s => vcOps P N ops.toList ops.toList s fun s' => K .normal { s' with defs := s.defs }
  | .region _ ops true, K, s =>
    cond (regOk N ops.toList (preOf ops.toList))
      (vcDraw P N ops.toList (preOf ops.toList) (ops.toList.length + 1) 0 [] { s with w := s.w.drew } fun s' => K .normal { s' with defs := s.defs }) False
  | .rangeFunc g ps assign body, K, s => vcRange P N r (annAt ann (firstReg body)) g ps.toList (exitsOf body) (hasRet body) (fun l => vcCode P N (some l) ann assign) (fun l => vcCode P N (some l) ann body) K s
  | .scope c, K, s => vcCode P N r ann c (fun e s' => match e with | .goto _ => False | e => K e s') s
  | _, _, _ => False

/-- The results, one by one. -/
def retC (P : Program) : List ResultVar → List Value → St → (Value → Prop) → Prop
  | [], [v], _, R => R v
  | [], acc, _, R => R (.tuple acc.toArray)
  | .tmp t :: r, acc, s, R => (match lk s.env t with | some x => retC P r (acc ++ [x.val]) s R | none => False)
  | .cell a t :: r, acc, s, R => (match lk s.env a with | some x => loadC P t x s fun y _ _ => retC P r (acc ++ [y.val]) s R | none => False)
/-- The marks are come to, one by one. -/
def endD : List Nat → World → (World → Prop) → Prop
  | [], w, K => K w
  | h :: r, w, K => w.heap[h]? = some (.deferred (some [])) ∧ endD r (w.putObj h (.deferred none)) K
def finalK (P : Program) (rs : List ResultVar) (R : Ending → World → Prop) : Exit → St → Prop :=
  fun e s => match e with
  | .normal | .ret => knownK s.w (knowns s.chs) <| endD s.defs s.w fun w' => retC P rs [] { s with w := w' } fun v => R (.returned v) w'
  | _ => False
def vcFn (P : Program) (ann : List (Nat × LoopAnn)) (fn : Func) (args : List SV) (chs : List Ch) (w : World) (R : Ending → World → Prop) : Prop :=
  match fn.body with
  | some c => cond (Nat.ble args.length fn.ntmps) (vcCode P fn.ntmps none ann c (finalK P fn.results.toList R) ⟨args.zipIdx.map fun (x, i) => (i, x), chs, [], w, []⟩) False
  | none => False

end Go.SX
