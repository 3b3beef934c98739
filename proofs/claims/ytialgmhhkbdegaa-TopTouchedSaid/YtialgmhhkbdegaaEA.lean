/- A symbolic evaluator for the code of Go functions as the model has it: values with open numbers, a heap of the call's own blocks. Definitions alone; that it is sound is proved in the text Eb. -/
import Derived.WalkKit
import Derived.ChangeKeysEq
import Derived.ProofKit
import Derived.Below
import Derived.OpenShut
namespace Go.Proofs.Ytialgmhhkbdegaa
namespace Ev

inductive AV where
  | bool (b : Bool)
  | int (k : IntKind) (n : Int)
  | ptr (id row st col : Nat)
  | nilp
  | sl (id row st len cap : Nat)
  | val (v : Value)
  | agg (cs : List AV)
  | tup (cs : List AV)
  | fn (f : Fn) (first captured : List AV)
  | top

def minK : IntKind → Int
  | .i8 => -128
  | .i16 => -32768
  | .i32 => -2147483648
  | .i64 => -9223372036854775808
  | _ => 0
def maxK : IntKind → Int
  | .i8 => 127
  | .i16 => 32767
  | .i32 => 2147483647
  | .i64 => 9223372036854775807
  | .u8 => 255
  | .u16 => 65535
  | .u32 => 4294967295
  | .u64 => 18446744073709551615
/-- the number is one of its kind -/
def inK (k : IntKind) (n : Int) : Prop := minK k ≤ n ∧ n ≤ maxK k
def inKB (k : IntKind) (n : Int) : Bool := decide (minK k ≤ n) && decide (n ≤ maxK k)
def ofCell : Value → AV
  | .bool b => .bool b
  | .int k n => bif inKB k n then .int k n else .val (.int k n)
  | .pointer none => .nilp
  | .func f a c => bif a.isEmpty && c.isEmpty then .fn f [] [] else .val (.func f a c)
  | v => .val v
def ofV : Value → AV
  | .agg cs => .agg (cs.toList.map ofCell)
  | v => ofCell v
def one : AV → Bool
  | .bool _ | .int _ _ | .ptr _ _ _ _ | .nilp | .sl _ _ _ _ _ | .fn _ _ _ => true
  | .val v => v.oneCell'
  | _ => false
def cellsA : AV → Option (List AV)
  | .agg cs => some cs
  | x => bif one x then some [x] else none

structure Blk where
  ty : TypeId
  cs : List AV
  own : Bool

abbrev Heap := Nat → Option Blk
structure St where
  tm : Nat → AV
  n : Nat
  hp : Heap
  nx : Nat

inductive Tree (α : Type) where
  | leaf (a : α)
  | need (p : Prop) (t : Tree α)
  | br (c : Bool) (t e : Tree α)
  | fail
def Tree.sat {α : Type} (R : α → Prop) : Tree α → Prop
  | .leaf a => R a
  | .need p t => p ∧ t.sat R
  | .br c t e => (c = true → t.sat R) ∧ (c = false → e.sat R)
  | .fail => False
def Tree.bind {α β : Type} (t : Tree α) (f : α → Tree β) : Tree β :=
  match t with
  | .leaf a => f a
  | .need p t => .need p (t.bind f)
  | .br c t e => bif c then t.bind f else e.bind f
  | .fail => .fail

/-- one place of a function turned -/
def upd {β : Type} (f : Nat → β) (i : Nat) (x : β) : Nat → β := fun j => bif Nat.beq j i then x else f j

def St.put (s : St) (d : Option Nat) (x : AV) : St :=
  match d with
  | some d => { s with tm := upd s.tm d x }
  | none => s
def St.eval (s : St) : Operand → AV
  | .tmp t => s.tm t
  | .const v => ofV v
  | .global g => .val (.pointer (some ⟨g, 0, none⟩))
  | .func f => .fn (.func f) [] []

def nth {β : Type} : List β → Nat → Option β
  | [], _ => none
  | x :: _, 0 => some x
  | _ :: l, n + 1 => nth l n
def takeA {β : Type} : Nat → List β → List β
  | 0, _ => []
  | _, [] => []
  | n + 1, x :: l => x :: takeA n l
def dropA {β : Type} : Nat → List β → List β
  | 0, l => l
  | _, [] => []
  | n + 1, _ :: l => dropA n l
def setA {β : Type} : List β → Nat → β → List β
  | [], _, _ => []
  | _ :: l, 0, y => y :: l
  | x :: l, n + 1, y => x :: setA l n y
def setsA {β : Type} : List β → Nat → List β → List β
  | cs, _, [] => cs
  | cs, off, v :: vs => setsA (setA cs off v) (off + 1) vs
def lenA {β : Type} : List β → Nat
  | [] => 0
  | _ :: l => lenA l + 1

section
variable (P : Program)
def sizeT (t : TypeId) : Option Nat := (P.info? t).map (·.size)
def bytesT (t : TypeId) : Option Int := (P.info? t).map (fun i => (i.bytes : Int))
def isAggT (t : TypeId) : Option Bool :=
  match P.underlying t with
  | some (.struct _) | some (.array _ _) => some true
  | some _ => some false
  | none => none
def zeroT (t : TypeId) : Option (List AV) :=
  match P.info? t with
  | some i => match i.zero with
    | some z => some (z.cells.toList.map ofCell)
    | none => none
  | none => none
def fillA (place : Nat → Option (Nat × Nat)) : List AV → List (Nat × AV) → Option (List AV)
  | cs, [] => some cs
  | cs, (i, x) :: rest =>
    match place i, cellsA x with
    | some (off, size), some vs => bif Nat.beq (lenA vs) size && Nat.ble (off + lenA vs) (lenA cs) then fillA place (setsA cs off vs) rest else none
    | _, _ => none
def placesA : List Field → Option (List (Nat × Nat))
  | [] => some []
  | f :: fs => match sizeT P f.type, placesA fs with
    | some s, some r => some ((f.offset, s) :: r)
    | _, _ => none
def partA (t : TypeId) (cs : List AV) (off : Nat) : Option AV :=
  match isAggT P t, sizeT P t with
  | some true, some s => bif Nat.ble (off + s) (lenA cs) then some (.agg (takeA s (dropA off cs))) else none
  | some false, _ => nth cs off
  | _, _ => none
def buildA (t : TypeId) (parts : List (Nat × AV)) : Option AV :=
  match zeroT P t, P.underlying t with
  | some z, some (.struct fs) =>
    match placesA P fs.toList with
    | some places => (fillA (nth places) z parts).map .agg
    | none => none
  | some z, some (.array _ e) =>
    match sizeT P e with
    | some s => (fillA (fun i => some (i * s, s)) z parts).map .agg
    | none => none
  | _, _ => none

def eqF (eq : TypeId → AV → AV → Option Bool) : List Field → List AV → List AV → Option Bool
  | [], _, _ => some true
  | f :: fs, xs, ys =>
    bif decide (f.name = "_") then none else
    match partA P f.type xs f.offset, partA P f.type ys f.offset with
    | some a, some b => match eq f.type a b, eqF eq fs xs ys with
      | some p, some q => some (p && q)
      | _, _ => none
    | _, _ => none
def eqI (eq : TypeId → AV → AV → Option Bool) (e : TypeId) (c : Nat) (xs ys : List AV) : List Nat → Option Bool
  | [] => some true
  | i :: is => match partA P e xs (i * c), partA P e ys (i * c) with
    | some a, some b => match eq e a b, eqI eq e c xs ys is with
      | some p, some q => some (p && q)
      | _, _ => none
    | _, _ => none
def eqA : Nat → TypeId → AV → AV → Option Bool
  | 0, _, _, _ => none
  | d + 1, t, x, y =>
    match P.underlying t, x, y with
    | some .bool, .bool a, .bool b => some (a == b)
    | some (.int _), .int k a, .int k' b => bif decide (k = k') then some (a == b) else none
    | some (.struct fs), .agg xs, .agg ys => bif P.stoodInHeld t then none else eqF P (eqA d) fs.toList xs ys
    | some (.array n e), .agg xs, .agg ys => match P.info? e with
      | some i => eqI P (eqA d) e i.size xs ys (List.range n)
      | none => none
    | _, _, _ => none

inductive Eff where
  | val (x : AV)
  | load (id row st col n : Nat) (agg : Bool)
  | store (id row st col : Nat) (vs : List AV)
  | alloc (b : Blk) (mk : Nat → AV)
  | app (id row st n cap id' row' st' m : Nat)
  | call (f : FuncId) (args : List AV)
  | test (c : Bool) (a : Eff)
  | bad

def ofOpt : Option AV → Eff
  | some x => .val x
  | none => .bad

def arithA (op : BinOp) (k : IntKind) (x y : Int) : Eff :=
  match op with
  | .add => .val (.int k (k.wrap (x + y)))
  | .sub => .val (.int k (k.wrap (x - y)))
  | .mul => .val (.int k (k.wrap (x * y)))
  | .quo => .test (y != 0) (.val (.int k (k.wrap (x.tdiv y))))
  | .rem => .test (y != 0) (.val (.int k (x.tmod y)))
  | .and => .val (.int k (k.wrap (BitVec.ofInt k.bits x &&& BitVec.ofInt k.bits y).toNat))
  | .or => .val (.int k (k.wrap (BitVec.ofInt k.bits x ||| BitVec.ofInt k.bits y).toNat))
  | .xor => .val (.int k (k.wrap (BitVec.ofInt k.bits x ^^^ BitVec.ofInt k.bits y).toNat))
  | .andNot => .val (.int k (k.wrap (BitVec.ofInt k.bits x &&& ~~~ BitVec.ofInt k.bits y).toNat))
  | .eql => .val (.bool (x == y))
  | .neq => .val (.bool (x != y))
  | .lss => .val (.bool (decide (x < y)))
  | .leq => .val (.bool (decide (x ≤ y)))
  | .gtr => .val (.bool (decide (x > y)))
  | .geq => .val (.bool (decide (x ≥ y)))
  | _ => .bad
def shiftA (op : BinOp) (k : IntKind) (x y : Int) : Eff :=
  match op with
  | .shl => .test (decide (0 ≤ y)) (.val (.int k (k.wrap (x * 2 ^ (min y.toNat k.bits)))))
  | .shr => .test (decide (0 ≤ y)) (.val (.int k (x.fdiv (2 ^ (min y.toNat k.bits)))))
  | _ => .bad
def notA : Option Bool → Eff
  | some b => .val (.bool (!b))
  | none => .bad
def yesA : Option Bool → Eff
  | some b => .val (.bool b)
  | none => .bad
def binA (op : BinOp) (t : TypeId) (x y : AV) : Eff :=
  match op, x, y with
  | .shl, .int k a, .int _ b => shiftA .shl k a b
  | .shr, .int k a, .int _ b => shiftA .shr k a b
  | op, .int k a, .int k' b => bif decide (k = k') then arithA op k a b else .bad
  | .eql, .bool a, .bool b => bif (match P.underlying t with | some .bool => true | _ => false) then .val (.bool (a == b)) else .bad
  | .neq, .bool a, .bool b => bif (match P.underlying t with | some .bool => true | _ => false) then .val (.bool (!(a == b))) else .bad
  | .eql, .agg xs, .agg ys => bif P.eqGuardType P.depth t then .bad else yesA (eqA P Op.maxDepth t (.agg xs) (.agg ys))
  | .neq, .agg xs, .agg ys => bif P.eqGuardType P.depth t then .bad else notA (eqA P Op.maxDepth t (.agg xs) (.agg ys))
  | _, _, _ => .bad
def unA (op : UnOp) (x : AV) : Eff :=
  match op, x with
  | .neg, .int k n => .val (.int k (k.wrap (0 - n)))
  | .not, .bool b => .val (.bool (!b))
  | _, _ => .bad
def convA (src dst : TypeId) (x : AV) : Eff :=
  match P.underlying src, P.underlying dst, x with
  | some (.int _), some (.int k), .int _ n => .val (.int k (k.wrap n))
  | _, _, _ => .bad
def maxA (k : IntKind) (x : Int) : List AV → Option AV
  | [] => some (.int k x)
  | .int k' y :: l => bif decide (k = k') then maxA k (max x y) l else none
  | _ => none
def minA (k : IntKind) (x : Int) : List AV → Option AV
  | [] => some (.int k x)
  | .int k' y :: l => bif decide (k = k') then minA k (min x y) l else none
  | _ => none

def isSliceO : Option TypeId → Bool
  | some t => match P.underlying t with | some (.slice _) => true | _ => false
  | none => false
/-- append within the room that there is -/
def appA (t u : Option TypeId) (id row st n cap id' row' st' m : Nat) : Eff :=
  match t, u with
  | some t, some u => match P.underlying t, P.underlying u with
    | some (.slice e), some (.slice _) => match sizeT P e with
      | some s => bif Nat.beq st s && (Nat.beq st' s && (Nat.ble 1 s && Nat.ble (n + m) cap)) then .app id row st n cap id' row' st' m else .bad
      | none => .bad
    | _, _ => .bad
  | _, _ => .bad
/-- n cells, the zero value's over and over -/
def zerosA (z : List AV) (s n : Nat) : List AV := (List.range n).map fun j => match nth z (j % s) with | some x => x | none => .top

def builtinA (ts : Array TypeId) (b : Builtin) (args : List AV) : Eff :=
  match b, args with
  | .len, [.sl _ _ _ n _] => bif isSliceO P ts[0]? then .val (.int .i64 n) else .bad
  | .append, [.sl id row st n cap, .sl id' row' st' m _] => appA P ts[0]? ts[1]? id row st n cap id' row' st' m
  | .max, .int k x :: l => ofOpt (maxA k x l)
  | .min, .int k x :: l => ofOpt (minA k x l)
  | _, _ => .bad
/-- what an operation does, out of the values of its operands -/
def eff (o : Op) (ρ : Operand → AV) : Eff :=
  match o with
  | .move x | .assign x => .val (ρ x)
  | .pick c a b => match ρ c with
    | .bool c => bif c then .val (ρ a) else .val (ρ b)
    | _ => .bad
  | .alloc t => match zeroT P t with
    | some z => .alloc ⟨t, z, true⟩ (fun id => .ptr id 0 0 0)
    | none => .bad
  | .box t x => match cellsA (ρ x) with
    | some cs => .alloc ⟨t, cs, true⟩ (fun id => .ptr id 0 0 0)
    | none => .bad
  | .build t parts => ofOpt (buildA P t (parts.toList.map fun p => (p.1, ρ p.2)))
  | .load t a => match ρ a, isAggT P t, sizeT P t with
    | .ptr id row st col, some true, some s => .load id row st col s true
    | .ptr id row st col, some false, _ => .load id row st col 1 false
    | _, _, _ => .bad
  | .store t a x => match ρ a, cellsA (ρ x), sizeT P t with
    | .ptr id row st col, some cs, some s => bif Nat.beq (lenA cs) s && cs.all one then .store id row st col cs else .bad
    | _, _, _ => .bad
  | .binOp op t x y _ => binA P op t (ρ x) (ρ y)
  | .unOp op _ x => unA op (ρ x)
  | .convert src dst x => convA P src dst (ρ x)
  | .nilCheck x => match ρ x with
    | .ptr id row st col => .val (.ptr id row st col)
    | .fn (.func f) a c => .val (.fn (.func f) a c)
    | _ => .bad
  | .makeFunc fn first captured => .val (.fn fn (first.toList.map ρ) (captured.toList.map ρ))
  | .fieldAddr t x i => match ρ x, P.underlying t with
    | .ptr id row st col, some (.struct fs) => match nth fs.toList i with
      | some f => match sizeT P f.type with
        | some s => bif Nat.beq s 0 then .bad else .val (.ptr id row st (col + f.offset))
        | none => .bad
      | none => .bad
    | _, _ => .bad
  | .field t x i => match ρ x, P.underlying t with
    | .agg cs, some (.struct fs) => match nth fs.toList i with
      | some f => ofOpt (partA P f.type cs f.offset)
      | none => .bad
    | _, _ => .bad
  | .indexAddr t x i => match ρ x, ρ i, P.underlying t with
    | .ptr id row st col, .int _ n, some (.array len e) => match sizeT P e with
      | some s => .test (decide (0 ≤ n ∧ n < len)) (.val (.ptr id row st (col + n.toNat * s)))
      | none => .bad
    | .sl id row st len _, .int _ n, some (.slice e) => match sizeT P e with
      | some s => bif Nat.beq st s then .test (decide (0 ≤ n ∧ n < len)) (.val (.ptr id (row + n.toNat) st 0)) else .bad
      | none => .bad
    | _, _, _ => .bad
  | .index t x i => match ρ x, ρ i, P.underlying t with
    | .val (.string s), .int _ n, some .string => .test (decide (0 ≤ n ∧ n < s.size)) (.val (.int .u8 ((s.data.toList.getD n.toNat 0).toNat)))
    | .agg cs, .int _ n, some (.array len e) => match sizeT P e with
      | some s => .test (decide (0 ≤ n ∧ n < len)) (ofOpt (partA P e cs (n.toNat * s)))
      | none => .bad
    | _, _, _ => .bad
  | .extract x i => match ρ x with
    | .tup vs => ofOpt (nth vs i)
    | _ => .bad
  | .call c => match c.callee with
    | .value f => match ρ f with
      | .fn (.func f) first captured => .call f (first ++ c.args.toList.map ρ ++ captured)
      | _ => .bad
    | .builtin b => builtinA P c.argTypes b (c.args.toList.map ρ)
    | _ => .bad
  | .makeSlice t l c => match ρ l, ρ c, P.underlying t with
    | .int _ l, .int _ c, some (.slice e) => match sizeT P e, zeroT P e, bytesT P e with
      | some s, some z, some by' =>
        bif Nat.ble 1 s && Nat.beq (lenA z) s then .test (decide (0 ≤ l ∧ l ≤ c ∧ c ≤ 65536 ∧ by' * c ≤ 281474976710656)) (.alloc ⟨e, zerosA z s (c.toNat * s), true⟩ (fun id => .sl id 0 s l.toNat c.toNat)) else .bad
      | _, _, _ => .bad
    | _, _, _ => .bad
  | .buildSlice t len parts => match P.underlying t with
    | some (.slice e) => match sizeT P e, zeroT P e with
      | some s, some z =>
        bif Nat.ble (len * s) 4096 && (Nat.ble 1 (len * s) && Nat.beq (lenA z) s) then
          match fillA (fun i => some (i * s, s)) (zerosA z s (len * s)) (parts.toList.map fun p => (p.1, ρ p.2)) with
          | some cs => .alloc ⟨e, cs, true⟩ (fun id => .sl id 0 s len len)
          | none => .bad
        else .bad
      | _, _ => .bad
    | _ => .bad
  | _ => .bad
end

/-- a call: the function, its arguments, the heap, the next number; what is done with the result and the heap behind it -/
abbrev CallT (α : Type) := FuncId → List AV → Heap → Nat → (AV → Heap → Nat → Tree α) → Tree α

section
variable {α : Type} (P : Program) (cT : CallT α)

def evEff (o : Option Nat) (s : St) (K : St → Tree α) : Eff → Tree α
  | .val x => K (s.put o x)
  | .load id row st col n agg => match s.hp id with
    | some b => bif Nat.ble (row * st + col + n) (lenA b.cs) then
        (bif agg then K (s.put o (.agg (takeA n (dropA (row * st + col) b.cs)))) else match nth b.cs (row * st + col) with
          | some x => K (s.put o x)
          | none => .fail)
      else .fail
    | none => .fail
  | .store id row st col vs => match s.hp id with
    | some b => bif b.own && Nat.ble (row * st + col + lenA vs) (lenA b.cs) then K ({ s with hp := upd s.hp id (some ⟨b.ty, setsA b.cs (row * st + col) vs, true⟩) }.put o (.val undef)) else .fail
    | none => .fail
  | .alloc b mk => K ({ s with hp := upd s.hp s.nx (some b), nx := s.nx + 1 }.put o (mk s.nx))
  | .app id row st n cap id' row' st' m => match s.hp id, s.hp id' with
    | some b, some b' =>
      bif b.own && (Nat.ble ((row' + m) * st') (lenA b'.cs) && (Nat.ble ((row + n + m) * st) (lenA b.cs) && (takeA (m * st') (dropA (row' * st') b'.cs)).all one)) then
        K ({ s with hp := upd s.hp id (some ⟨b.ty, setsA b.cs ((row + n) * st) (takeA (m * st') (dropA (row' * st') b'.cs)), true⟩) }.put o (.sl id row st (n + m) cap))
      else .fail
    | _, _ => .fail
  | .call f args => cT f args s.hp s.nx fun v hp nx => K ({ s with hp := hp, nx := nx }.put o v)
  | .test c a => bif c then evEff o s K a else .fail
  | .bad => .fail

def evOps (ops : Array Oper) : List Nat → St → (St → Tree α) → Tree α
  | [], s, K => K s
  | i :: rest, s, K =>
    match ops[i]? with
    | none => evOps ops rest s K
    | some o =>
      bif Nat.ble s.n ((o.dst).getD 0) then .fail else
      match o.guard with
      | none => evEff cT o.dst s (fun s' => evOps ops rest s' K) (eff P o.op s.eval)
      | some (j, want) =>
        match (ops[j]?).bind (·.dst) with
        | none => .fail
        | some d =>
          bif Nat.ble s.n d then .fail else
          match s.tm d with
          | .bool b =>
            bif b then (bif want then evEff cT o.dst (s.put (some d) (.bool true)) (fun s' => evOps ops rest s' K) (eff P o.op (s.put (some d) (.bool true)).eval)
                else evOps ops rest ((s.put (some d) (.bool true)).put o.dst (.val undef)) K)
            else (bif want then evOps ops rest ((s.put (some d) (.bool false)).put o.dst (.val undef)) K
                else evEff cT o.dst (s.put (some d) (.bool false)) (fun s' => evOps ops rest s' K) (eff P o.op (s.put (some d) (.bool false)).eval))
          | .val (.tuple _) => evOps ops rest (s.put o.dst (.val undef)) K
          | _ => .fail

/-- a summary of a function that neither reads nor writes memory: a condition, and what it hands back -/
abbrev PureT := List AV → Option (Bool × AV)
def assoc {β : Type} : List (Nat × β) → Nat → Option β
  | [], _ => none
  | (k, x) :: l, i => bif Nat.beq k i then some x else assoc l i

/-- what one operation of a region does to memory -/
inductive Mem where
  | no
  | ld (id lo hi : Nat)
  | st (id lo : Nat) (vs : List AV)
  | al (b : Blk)
structure It where
  dst : Option Nat
  res : AV
  mem : Mem
def Mem.app (id0 : Nat) (m : Mem) (hp : Heap) : Heap :=
  match m with
  | .st id lo vs => upd hp id (match hp id with | some b => some ⟨b.ty, setsA b.cs lo vs, b.own⟩ | none => none)
  | .al b => upd hp id0 (some b)
  | _ => hp
def It.app (id0 : Nat) (it : It) (s : St) : St := { s with hp := it.mem.app id0 s.hp }.put it.dst it.res

/-- one operation of a region whose order is open, walked in the text's order -/
def plEff (pu : List (Nat × PureT)) (id0 : Nat) (dst : Option Nat) (s : St) (k : It → Tree α) : Eff → Tree α
  | .val x => k ⟨dst, x, .no⟩
  | .load id row st col n agg => match s.hp id with
    | some b => bif Nat.ble 1 n && Nat.ble (row * st + col + n) (lenA b.cs) then
        (bif agg then k ⟨dst, .agg (takeA n (dropA (row * st + col) b.cs)), .ld id (row * st + col) (row * st + col + n)⟩ else match nth b.cs (row * st + col) with
          | some x => k ⟨dst, x, .ld id (row * st + col) (row * st + col + n)⟩
          | none => .fail)
      else .fail
    | none => .fail
  | .store id row st col vs => match s.hp id with
    | some b => bif Nat.ble 1 (lenA vs) && (b.own && Nat.ble (row * st + col + lenA vs) (lenA b.cs)) then k ⟨dst, .val undef, .st id (row * st + col) vs⟩ else .fail
    | none => .fail
  | .alloc b mk => k ⟨dst, mk id0, .al b⟩
  | .app .. => .fail
  | .call f args => match assoc pu f with
    | some g => match g args with
      | some (c, x) => bif c then k ⟨dst, x, .no⟩ else .fail
      | none => .fail
    | none => .fail
  | .test c e => bif c then plEff pu id0 dst s k e else .fail
  | .bad => .fail

def evPlan (pu : List (Nat × PureT)) (nx : Nat) (ops : Array Oper) : List Nat → List It → St → (List It → St → Tree α) → Tree α
  | [], acc, s, K => K acc s
  | i :: rest, acc, s, K =>
    match ops[i]? with
    | none => .fail
    | some o =>
      bif Nat.ble s.n ((o.dst).getD 0) then .fail else
      match o.guard with
      | none => plEff pu (nx + i) o.dst s (fun it => evPlan pu nx ops rest (acc ++ [it]) (it.app (nx + i) s) K) (eff P o.op s.eval)
      | some (j, want) =>
        match (ops[j]?).bind (·.dst) with
        | none => .fail
        | some d =>
          bif Nat.ble s.n d then .fail else
          match s.tm d with
          | .bool b =>
            bif b then (bif want then plEff pu (nx + i) o.dst (s.put (some d) (.bool true)) (fun it => evPlan pu nx ops rest (acc ++ [it]) (it.app (nx + i) (s.put (some d) (.bool true))) K) (eff P o.op (s.put (some d) (.bool true)).eval)
                else evPlan pu nx ops rest (acc ++ [⟨o.dst, .val undef, .no⟩]) ((s.put (some d) (.bool true)).put o.dst (.val undef)) K)
            else (bif want then evPlan pu nx ops rest (acc ++ [⟨o.dst, .val undef, .no⟩]) ((s.put (some d) (.bool false)).put o.dst (.val undef)) K
                else plEff pu (nx + i) o.dst (s.put (some d) (.bool false)) (fun it => evPlan pu nx ops rest (acc ++ [it]) (it.app (nx + i) (s.put (some d) (.bool false))) K) (eff P o.op (s.put (some d) (.bool false)).eval))
          | .val (.tuple _) => evPlan pu nx ops rest (acc ++ [⟨o.dst, .val undef, .no⟩]) (s.put o.dst (.val undef)) K
          | _ => .fail

/-- which operations come before one, as the bits of a number -/
def maskOf (acc : List Nat) : List Edge → Nat
  | [] => 0
  | e :: l => bif Region.binds .any e then (2 ^ e.on ||| ((nth acc e.on).getD 0)) ||| maskOf acc l else maskOf acc l
def masks : List Oper → List Nat → List Nat
  | [], acc => acc
  | o :: l, acc => masks l (acc ++ [maskOf acc o.after.toList])
def edgesOk : List Oper → Nat → Bool
  | [], _ => true
  | o :: l, i => (o.after.toList.all fun e => bif Region.binds .any e then Nat.blt e.on i else true) && edgesOk l (i + 1)
def apartB (id lo hi id' lo' hi' : Nat) : Bool := !(Nat.beq id id') || (Nat.ble hi lo' || Nat.ble hi' lo)
def memIndep (i : Nat) (m : Mem) (j : Nat) (k : Mem) : Bool :=
  match m, k with
  | .no, _ => true
  | _, .no => true
  | .ld _ _ _, .ld _ _ _ => true
  | .ld id lo hi, .st id' lo' vs => apartB id lo hi id' lo' (lo' + lenA vs)
  | .st id' lo' vs, .ld id lo hi => apartB id lo hi id' lo' (lo' + lenA vs)
  | .ld id _ _, .al _ => !(Nat.beq id j)
  | .al _, .ld id _ _ => !(Nat.beq id i)
  | .st id lo vs, .st id' lo' vs' => apartB id lo (lo + lenA vs) id' lo' (lo' + lenA vs')
  | .st id _ _, .al _ => !(Nat.beq id j)
  | .al _, .st id _ _ => !(Nat.beq id i)
  | .al _, .al _ => true
def looks (ops : Array Oper) (o : Oper) : List Nat :=
  (o.op.operands.toList.filterMap fun | .tmp t => some t | _ => none) ++
  (match o.guard with
   | some (g, _) => ((ops[g]?).bind (·.dst)).toList
   | none => [])
def notIn (d : Option Nat) (l : List Nat) : Bool :=
  match d with
  | some d => l.all fun t => !(Nat.beq t d)
  | none => true
def diffD (d e : Option Nat) : Bool :=
  match d, e with
  | some d, some e => !(Nat.beq d e)
  | _, _ => true
/-- what the plan of a region keeps of an operation for the look at pairs -/
structure Row where
  dst : Option Nat
  looks : List Nat
  mem : Mem
  mask : Nat
def rowsOf (ops : Array Oper) : List Oper → List It → List Nat → List Row
  | o :: l, it :: is, m :: ms => ⟨it.dst, looks ops o, it.mem, m⟩ :: rowsOf ops l is ms
  | _, _, _ => []
def pairOk (nx i : Nat) (r : Row) (j : Nat) (q : Row) : Bool :=
  diffD r.dst q.dst && (Nat.testBit q.mask i || (notIn r.dst q.looks && (notIn q.dst r.looks && memIndep (nx + i) r.mem (nx + j) q.mem)))
def rowOk (nx i : Nat) (r : Row) : Nat → List Row → Bool
  | _, [] => true
  | j, q :: l => pairOk nx i r j q && rowOk nx i r (j + 1) l
def rowsOk (nx : Nat) : Nat → List Row → Bool
  | _, [] => true
  | i, r :: l => rowOk nx i r (i + 1) l && rowsOk nx (i + 1) l
def planOk (nx : Nat) (ops : Array Oper) (items : List It) : Bool :=
  edgesOk ops.toList 0 && rowsOk nx 0 (rowsOf ops ops.toList items (masks ops.toList []))

/-- a call of a function that no summary of its own covers -/
def outCall (pu : List (Nat × PureT)) : Op → Bool
  | .call c => match c.callee with
    | .value (.func f) => match assoc pu f with
      | some _ => false
      | none => true
    | .builtin _ => false
    | _ => true
  | _ => false
/-- how many operations stand before the first such call -/
def headLen (pu : List (Nat × PureT)) : List Oper → Nat
  | [] => 0
  | o :: l => bif outCall pu o.op then 0 else headLen pu l + 1
/-- from a number on each operation comes after all that stand before it -/
def fullOk (m : Nat) : Nat → List Nat → Bool
  | _, [] => true
  | k, x :: l => (bif Nat.ble m k then (List.range k).all (fun j => Nat.testBit x j) else true) && fullOk m (k + 1) l

def learn (c : Operand) (b : Bool) (s : St) : St :=
  match c with
  | .tmp t => bif Nat.ble s.n t then s else s.put (some t) (.bool b)
  | _ => s

def unroll : Nat → (St → (Exit → St → Tree α) → Tree α) → St → (Exit → St → Tree α) → Tree α
  | 0, _, _, _ => .fail
  | n + 1, body, s, K => body s fun e s' => match e with
    | .normal => unroll n body s' K
    | e => K e s'

/-- the first region's number: by which a loop is known -/
def keyOf : Code → Nat
  | .region id _ _ => id
  | .seq a _ => keyOf a
  | .block _ c => keyOf c
  | .loop c => keyOf c
  | .scope c => keyOf c
  | _ => 0

/-- what is known of a loop: its number, and the states in which it may end -/
abbrev LoopT := Nat → Option (St → Tree (Exit × St))

def evC (pu : List (Nat × PureT)) (u : Nat) (L : LoopT) : Code → St → (Exit → St → Tree α) → Tree α
  | .skip, s, K => K .normal s
  | .region _ ops false, s, K => evOps P cT ops (List.range ops.size) s (K .normal)
  | .region _ ops true, s, K => evPlan P pu s.nx ops (List.range (headLen pu ops.toList)) [] { s with nx := s.nx + ops.size } fun items s' =>
      bif planOk s.nx ops items && fullOk (headLen pu ops.toList) 0 (masks ops.toList []) then evOps P cT ops ((List.range ops.size).drop (headLen pu ops.toList)) s' (K .normal) else .fail
  | .seq a b, s, K => evC pu u L a s fun e s' => match e with
    | .normal => evC pu u L b s' K
    | e => K e s'
  | .cond c a b, s, K => match s.eval c with
    | .bool x => bif x then evC pu u L a (learn c true s) K else evC pu u L b (learn c false s) K
    | _ => .fail
  | .block id c, s, K => evC pu u L c s fun e s' => match e with
    | .exit id' => bif Nat.beq id' id then K .normal s' else K (.exit id') s'
    | e => K e s'
  | .loop c, s, K => match L (keyOf c) with
    | some f => (f s).bind fun x => K x.1 x.2
    | none => unroll u (fun s K => evC pu u L c s K) s K
  | .exit id, s, K => K (.exit id) s
  | .ret, s, K => K .ret s
  | _, _, _ => .fail
end

/-- the values that a function hands back -/
def resultsA (P : Program) (s : St) : List ResultVar → Option (List AV)
  | [] => some []
  | .tmp t :: l => (resultsA P s l).map (s.tm t :: ·)
  | .cell a t :: l => match s.tm a, isAggT P t, sizeT P t with
    | .ptr id row st col, some agg, some n => match s.hp id with
      | some b => bif agg then (bif Nat.ble (row * st + col + n) (lenA b.cs) then (resultsA P s l).map (.agg (takeA n (dropA (row * st + col) b.cs)) :: ·) else none)
          else match nth b.cs (row * st + col) with
            | some x => (resultsA P s l).map (x :: ·)
            | none => none
      | none => none
    | _, _, _ => none
def tupA : List AV → AV
  | [x] => x
  | l => .tup l

structure Ctx where
  P : Program
  u : Nat
  fns : List (Nat × Func)
  loops : List ((Nat × Nat) × (St → Tree (Exit × St)))
  pures : List (Nat × PureT)
  specs : List (Nat × (Heap → Nat → List AV → Tree (AV × Heap × Nat)))
def assoc2 {β : Type} : List ((Nat × Nat) × β) → Nat → Nat → Option β
  | [], _, _ => none
  | (k, x) :: l, i, j => bif Nat.beq k.1 i && Nat.beq k.2 j then some x else assoc2 l i j
def frameOf : List AV → Nat → AV
  | [], _ => .val undef
  | x :: _, 0 => x
  | _ :: l, n + 1 => frameOf l n

def evFn {α : Type} (X : Ctx) : Nat → CallT α
  | 0, _, _, _, _, _ => .fail
  | m + 1, f, args, hp, nx, K =>
    match (assoc X.pures f).bind (· args) with
    | some (c, x) => bif c then K x hp nx else .fail
    | none =>
    match assoc X.specs f with
    | some c => (c hp nx args).bind fun r => K r.1 r.2.1 r.2.2
    | none =>
      match assoc X.fns f with
      | none => .fail
      | some fn =>
        match fn.body with
        | none => .fail
        | some c =>
          bif Nat.ble (lenA args) fn.ntmps then
            evC X.P (evFn X m) X.pures X.u (assoc2 X.loops f) c { tm := frameOf args, n := fn.ntmps, hp := hp, nx := nx } fun e s =>
              match e with
              | .normal | .ret => match resultsA X.P s fn.results.toList with
                | some l => K (tupA l) s.hp s.nx
                | none => .fail
              | _ => .fail
          else .fail
end Ev
end Go.Proofs.Ytialgmhhkbdegaa
/- That the symbolic evaluator of the text Ea is sound, first part: how symbolic values stand for the model's values; lists, parts, aggregates, equality. -/
namespace Go.Proofs.Ytialgmhhkbdegaa
open Go.RowKit
namespace Ev

mutual
def Rep (σ : Nat → Option Nat) : AV → Value → Prop
  | .bool b, v => v = .bool b
  | .int k n, v => v = .int k n ∧ inK k n
  | .ptr id row st col, v => ∃ b, σ id = some b ∧ v = .pointer (some ⟨b, row * st + col, none⟩)
  | .nilp, v => v = .pointer none
  | .sl id row st len cap, v => (len : Int) ≤ maxK .i64 ∧ (cap : Int) ≤ maxK .i64 ∧ ∃ b, σ id = some b ∧ v = .slice (some ⟨b, row * st, none⟩) len cap
  | .val u, v => v = u
  | .agg cs, v => ∃ vs, RepL σ cs vs ∧ v = .agg vs.toArray
  | .tup cs, v => ∃ vs, RepL σ cs vs ∧ v = .tuple vs.toArray
  | .fn f a c, v => ∃ x y, RepL σ a x ∧ RepL σ c y ∧ v = .func f x.toArray y.toArray
  | .top, _ => True
def RepL (σ : Nat → Option Nat) : List AV → List Value → Prop
  | [], vs => vs = []
  | x :: xs, vs => ∃ v us, vs = v :: us ∧ Rep σ x v ∧ RepL σ xs us
end

def Ext (σ τ : Nat → Option Nat) : Prop := ∀ i b, σ i = some b → τ i = some b
theorem Ext.refl (σ : Nat → Option Nat) : Ext σ σ := fun _ _ h => h
theorem Ext.trans {σ τ ρ : Nat → Option Nat} (h : Ext σ τ) (k : Ext τ ρ) : Ext σ ρ := fun i b x => k i b (h i b x)

mutual
theorem Rep.mono {σ τ : Nat → Option Nat} (e : Ext σ τ) : ∀ (x : AV) (v : Value), Rep σ x v → Rep τ x v
  | .bool _, _, h => by simpa only [Rep] using h
  | .int _ _, _, h => by simpa only [Rep] using h
  | .ptr id row st col, v, h => by
    simp only [Rep] at h ⊢
    obtain ⟨b, h1, h2⟩ := h
    exact ⟨b, e _ _ h1, h2⟩
  | .nilp, _, h => by simpa only [Rep] using h
  | .sl id row st len cap, v, h => by
    simp only [Rep] at h ⊢
    obtain ⟨h0, h0', b, h1, h2⟩ := h
    exact ⟨h0, h0', b, e _ _ h1, h2⟩
  | .val _, _, h => by simpa only [Rep] using h
  | .agg cs, v, h => by
    simp only [Rep] at h ⊢
    obtain ⟨vs, h1, h2⟩ := h
    exact ⟨vs, RepL.mono e cs vs h1, h2⟩
  | .tup cs, v, h => by
    simp only [Rep] at h ⊢
    obtain ⟨vs, h1, h2⟩ := h
    exact ⟨vs, RepL.mono e cs vs h1, h2⟩
  | .fn f a c, v, h => by
    simp only [Rep] at h ⊢
    obtain ⟨x, y, h1, h2, h3⟩ := h
    exact ⟨x, y, RepL.mono e a x h1, RepL.mono e c y h2, h3⟩
  | .top, _, _ => by simp only [Rep]
theorem RepL.mono {σ τ : Nat → Option Nat} (e : Ext σ τ) : ∀ (xs : List AV) (vs : List Value), RepL σ xs vs → RepL τ xs vs
  | [], _, h => by simpa only [RepL] using h
  | x :: xs, vs, h => by
    simp only [RepL] at h ⊢
    obtain ⟨v, us, h1, h2, h3⟩ := h
    exact ⟨v, us, h1, Rep.mono e x v h2, RepL.mono e xs us h3⟩
end

theorem lenA_eq {β : Type} (l : List β) : lenA l = l.length := by induction l <;> simp [lenA, *]
theorem nth_eq {β : Type} (l : List β) (n : Nat) : nth l n = l[n]? := by
  induction l generalizing n with
  | nil => simp [nth]
  | cons x l ih => cases n <;> simp [nth, ih]
theorem takeA_eq {β : Type} (n : Nat) (l : List β) : takeA n l = l.take n := by
  induction n generalizing l with
  | zero => simp [takeA]
  | succ n ih => cases l <;> simp [takeA, ih]
theorem dropA_eq {β : Type} (n : Nat) (l : List β) : dropA n l = l.drop n := by
  induction n generalizing l with
  | zero => simp [dropA]
  | succ n ih => cases l <;> simp [dropA, ih]
theorem setA_eq {β : Type} (l : List β) (n : Nat) (y : β) : setA l n y = l.set n y := by
  induction l generalizing n with
  | nil => simp [setA]
  | cons x l ih => cases n <;> simp [setA, ih]

theorem repL_iff {σ : Nat → Option Nat} : ∀ {xs : List AV} {vs : List Value}, RepL σ xs vs ↔ xs.length = vs.length ∧ ∀ (i : Nat) (x : AV) (v : Value), xs[i]? = some x → vs[i]? = some v → Rep σ x v
  | [], vs => by
    simp only [RepL]
    constructor
    · rintro rfl; simp
    · rintro ⟨h, _⟩; exact List.eq_nil_of_length_eq_zero (by simpa using h.symm)
  | x :: xs, vs => by
    simp only [RepL]
    constructor
    · rintro ⟨v, us, rfl, h1, h2⟩
      obtain ⟨h3, h4⟩ := repL_iff.1 h2
      refine ⟨by simp [h3], fun i y u hy hu => ?_⟩
      cases i with
      | zero => simp at hy hu; subst hy; subst hu; exact h1
      | succ i => exact h4 i y u (by simpa using hy) (by simpa using hu)
    · rintro ⟨h1, h2⟩
      cases vs with
      | nil => simp at h1
      | cons v us =>
        refine ⟨v, us, rfl, h2 0 x v rfl rfl, repL_iff.2 ⟨by simpa using h1, fun i y u hy hu => h2 (i + 1) y u (by simpa using hy) (by simpa using hu)⟩⟩

theorem RepL.length {σ : Nat → Option Nat} {xs : List AV} {vs : List Value} (h : RepL σ xs vs) : xs.length = vs.length := (repL_iff.1 h).1
theorem RepL.get {σ : Nat → Option Nat} {xs : List AV} {vs : List Value} (h : RepL σ xs vs) {i : Nat} {x : AV} (hx : xs[i]? = some x) : ∃ v, vs[i]? = some v ∧ Rep σ x v := by
  obtain ⟨h1, h2⟩ := repL_iff.1 h
  have hi : i < vs.length := by rw [← h1]; exact (List.getElem?_eq_some_iff.1 hx).1
  exact ⟨vs[i], List.getElem?_eq_getElem hi, h2 i x _ hx (List.getElem?_eq_getElem hi)⟩
theorem RepL.take {σ : Nat → Option Nat} {xs : List AV} {vs : List Value} (h : RepL σ xs vs) (n : Nat) : RepL σ (xs.take n) (vs.take n) := by
  obtain ⟨h1, h2⟩ := repL_iff.1 h
  refine repL_iff.2 ⟨by simp [h1], fun i x v hx hv => ?_⟩
  simp only [List.getElem?_take] at hx hv
  split at hx
  · rename_i hi; rw [if_pos hi] at hv; exact h2 i x v hx hv
  · simp at hx
theorem RepL.drop {σ : Nat → Option Nat} {xs : List AV} {vs : List Value} (h : RepL σ xs vs) (n : Nat) : RepL σ (xs.drop n) (vs.drop n) := by
  obtain ⟨h1, h2⟩ := repL_iff.1 h
  refine repL_iff.2 ⟨by simp [h1], fun i x v hx hv => ?_⟩
  simp only [List.getElem?_drop] at hx hv
  exact h2 _ x v hx hv
theorem RepL.append {σ : Nat → Option Nat} {xs ys : List AV} {vs us : List Value} (h : RepL σ xs vs) (k : RepL σ ys us) : RepL σ (xs ++ ys) (vs ++ us) := by
  obtain ⟨h1, h2⟩ := repL_iff.1 h
  obtain ⟨k1, k2⟩ := repL_iff.1 k
  refine repL_iff.2 ⟨by simp [h1, k1], fun i x v hx hv => ?_⟩
  rw [List.getElem?_append] at hx hv
  rw [h1] at hx
  split at hx
  · rename_i hi; rw [if_pos hi] at hv; exact h2 i x v hx hv
  · rename_i hi; rw [if_neg hi] at hv; exact k2 _ x v hx hv
theorem RepL.set {σ : Nat → Option Nat} {xs : List AV} {vs : List Value} (h : RepL σ xs vs) {n : Nat} {y : AV} {u : Value} (hy : Rep σ y u) : RepL σ (xs.set n y) (vs.set n u) := by
  obtain ⟨h1, h2⟩ := repL_iff.1 h
  refine repL_iff.2 ⟨by simp [h1], fun i x v hx hv => ?_⟩
  rw [List.getElem?_set] at hx hv
  by_cases hni : n = i
  · subst hni
    by_cases hlt : n < xs.length
    · have hlt' : n < vs.length := h1 ▸ hlt
      simp [hlt] at hx; simp [hlt'] at hv; subst hx; subst hv; exact hy
    · simp [hlt] at hx
  · simp [hni] at hx hv; exact h2 i x v hx hv
theorem RepL.map {σ : Nat → Option Nat} {β : Type} {f : β → AV} {g : β → Value} (h : ∀ b, Rep σ (f b) (g b)) : ∀ (l : List β), RepL σ (l.map f) (l.map g)
  | [] => by simp [RepL]
  | b :: l => by simp only [List.map_cons, RepL]; exact ⟨g b, l.map g, rfl, h b, RepL.map h l⟩

theorem inKB_spec {k : IntKind} {n : Int} : inKB k n = true ↔ inK k n := by simp [inKB, inK]
theorem wrap_in (k : IntKind) (n : Int) : inK k (k.wrap n) := by
  unfold inK IntKind.wrap
  cases k <;> simp [IntKind.bits, IntKind.signed, minK, maxK] <;> (try split) <;> omega
theorem rep_int {σ : Nat → Option Nat} {k : IntKind} {n : Int} (h : inK k n) : Rep σ (.int k n) (.int k n) := by simp only [Rep]; exact ⟨trivial, h⟩
theorem rep_wrap {σ : Nat → Option Nat} (k : IntKind) (n : Int) : Rep σ (.int k (k.wrap n)) (.int k (k.wrap n)) := rep_int (wrap_in k n)
theorem rep_bool {σ : Nat → Option Nat} (b : Bool) : Rep σ (.bool b) (.bool b) := by simp only [Rep]
theorem rep_ofCell (σ : Nat → Option Nat) (v : Value) : Rep σ (ofCell v) v := by
  cases v with
  | func f a c =>
    simp only [ofCell]
    cases h : a.isEmpty && c.isEmpty with
    | true =>
      simp at h
      simp only [cond_true, Rep]
      exact ⟨[], [], by simp [RepL], by simp [RepL], by simp [h.1, h.2]⟩
    | false => simp [Rep]
  | pointer a => cases a <;> simp [ofCell, Rep]
  | int k n =>
    simp only [ofCell]
    cases h : inKB k n with
    | true => exact rep_int (inKB_spec.1 h)
    | false => simp [Rep]
  | _ => simp [ofCell, Rep]
theorem repL_ofCell (σ : Nat → Option Nat) (l : List Value) : RepL σ (l.map ofCell) l := by
  have := RepL.map (σ := σ) (f := ofCell) (g := id) (fun v => rep_ofCell σ v) l
  simpa using this
theorem rep_ofV (σ : Nat → Option Nat) (v : Value) : Rep σ (ofV v) v := by
  cases v with
  | agg cs => simp only [ofV, Rep]; exact ⟨cs.toList, repL_ofCell σ _, by simp⟩
  | _ => simp only [ofV]; exact rep_ofCell σ _
theorem one_cell {σ : Nat → Option Nat} {x : AV} {v : Value} (h : Rep σ x v) (ho : one x = true) : v.oneCell' = true := by
  cases x <;> simp only [one, Rep] at h ho <;> first | (subst h; first | rfl | exact ho) | (obtain ⟨rfl, _⟩ := h; rfl) | (obtain ⟨_, _, _, rfl⟩ := h; rfl) | (obtain ⟨_, _, _, _, rfl⟩ := h; rfl) | (obtain ⟨_, _, rfl⟩ := h; rfl) | (obtain ⟨_, _, _, _, rfl⟩ := h; rfl) | simp at ho
theorem one_cells {v : Value} (h : v.oneCell' = true) : v.cells = #[v] := by cases v <;> first | rfl | (simp [Value.oneCell'] at h)
theorem rep_cells {σ : Nat → Option Nat} {x : AV} {v : Value} {cs : List AV} (h : Rep σ x v) (hc : cellsA x = some cs) : RepL σ cs v.cells.toList := by
  have key : ∀ (y : AV), Rep σ y v → (bif one y then some [y] else none) = some cs → RepL σ cs v.cells.toList := by
    intro y hy hh
    cases ho : one y with
    | false => simp [ho] at hh
    | true =>
      simp [ho] at hh; subst hh
      rw [one_cells (one_cell hy ho)]
      simp only [RepL]
      exact ⟨v, [], by simp, hy, rfl⟩
  cases x with
  | agg xs =>
    simp [cellsA] at hc; subst hc
    simp only [Rep] at h
    obtain ⟨vs, h1, rfl⟩ := h
    simpa [Value.cells] using h1
  | _ => exact key _ h (by simpa [cellsA] using hc)

theorem setsA_rep {σ : Nat → Option Nat} : ∀ (ys : List AV) (us : List Value) (off : Nat) (xs : List AV) (vs : List Value), RepL σ xs vs → RepL σ ys us → RepL σ (setsA xs off ys) (setsA vs off us)
  | [], us, off, xs, vs, h, k => by simp only [RepL] at k; subst k; simpa [setsA] using h
  | y :: ys, us, off, xs, vs, h, k => by
    simp only [RepL] at k
    obtain ⟨u, us', rfl, k1, k2⟩ := k
    simp only [setsA, setA_eq]
    exact setsA_rep ys us' (off + 1) _ _ (h.set k1) k2
theorem setsA_length {β : Type} : ∀ (ys : List β) (off : Nat) (xs : List β), (setsA xs off ys).length = xs.length
  | [], _, _ => rfl
  | y :: ys, off, xs => by simp [setsA, setA_eq, setsA_length ys]
theorem foldl_sets : ∀ (l : List Value) (off k : Nat) (cur : Array Value), (l.zipIdx k).foldl (fun cs (p : Value × Nat) => cs.setIfInBounds (off + p.2) p.1) cur = (setsA cur.toList (off + k) l).toArray
  | [], off, k, cur => by simp [setsA]
  | v :: l, off, k, cur => by
    simp only [List.zipIdx_cons, List.foldl_cons, setsA, setA_eq]
    rw [foldl_sets l off (k + 1)]
    simp [Nat.add_assoc]

theorem fill_rep {σ : Nat → Option Nat} (place : Nat → Option (Nat × Nat)) : ∀ (parts : List (Nat × AV)) (qs : List (Nat × Value)) (xs : List AV) (vs : List Value) (r : List AV), RepL σ xs vs →
    (parts.length = qs.length ∧ ∀ (i : Nat) (p : Nat × AV) (q : Nat × Value), parts[i]? = some p → qs[i]? = some q → p.1 = q.1 ∧ Rep σ p.2 q.2) →
    fillA place xs parts = some r → ∃ us, Instr.fill place vs.toArray qs = some us.toArray ∧ RepL σ r us ∧ us.length = vs.length
  | [], qs, xs, vs, r, h, hp, hf => by
    have : qs = [] := List.eq_nil_of_length_eq_zero (by simpa using hp.1.symm)
    subst this
    simp [fillA] at hf; subst hf
    exact ⟨vs, by simp [Instr.fill], h, rfl⟩
  | (i, x) :: parts, qs, xs, vs, r, h, hp, hf => by
    cases qs with
    | nil => simp at hp
    | cons q qs =>
      obtain ⟨j, v⟩ := q
      have h0 := hp.2 0 (i, x) (j, v) rfl rfl
      simp only at h0
      obtain ⟨rfl, hx⟩ := h0
      simp only [fillA] at hf
      cases hpl : place i with
      | none => simp [hpl] at hf
      | some os =>
        obtain ⟨off, size⟩ := os
        cases hc : cellsA x with
        | none => simp [hpl, hc] at hf
        | some cs =>
          simp only [hpl, hc] at hf
          have hcr := rep_cells hx hc
          have hl := hcr.length
          cases hb : (Nat.beq (lenA cs) size && Nat.ble (off + lenA cs) (lenA xs)) with
          | false => simp [hb] at hf
          | true =>
            simp only [hb, cond_true] at hf
            simp only [Bool.and_eq_true, Nat.beq_eq, Nat.ble_eq, lenA_eq] at hb
            have hlen := h.length
            have ih := fill_rep place parts qs (setsA xs off cs) (setsA vs off v.cells.toList) r (setsA_rep _ _ _ _ _ h hcr)
              ⟨by simpa using hp.1, fun k p q hp' hq' => hp.2 (k + 1) p q (by simpa using hp') (by simpa using hq')⟩ hf
            obtain ⟨us, hu1, hu2, hu3⟩ := ih
            refine ⟨us, ?_, hu2, by rw [hu3, setsA_length]⟩
            simp only [Instr.fill, hpl]
            have hsz : v.cells.size = cs.length := by rw [hl]; simp
            have hvs : vs.toArray.size = xs.length := by simp [hlen]
            rw [if_neg (by simp only [hsz, hvs]; simp; exact ⟨hb.1, hb.2⟩)]
            have hfold : v.cells.zipIdx.foldl (fun cs (p : Value × Nat) => cs.setIfInBounds (off + p.2) p.1) vs.toArray = (setsA vs off v.cells.toList).toArray := by
              have := foldl_sets v.cells.toList off 0 vs.toArray
              simp only [Nat.add_zero] at this
              rw [← this, ← Array.foldl_toList]
              congr 1
              simp
            rw [hfold]
            exact hu1

section
variable {P : Program}
theorem run_size {t : TypeId} {s : Nat} (h : sizeT P t = some s) (w : World) : (sizeOf t).run P w = .ok s w := by
  unfold sizeT at h
  cases hi : P.info? t with
  | none => simp [hi] at h
  | some i => simp [hi] at h; simp [sizeOf, typeInfo, hi, h]
theorem run_agg {t : TypeId} {b : Bool} (h : isAggT P t = some b) (w : World) : (isAgg t).run P w = .ok b w := by
  unfold isAggT at h
  unfold isAgg
  rw [Sem.run_bind]
  cases hu : P.underlying t with
  | none => simp [hu] at h
  | some d =>
    rw [run_underlying hu w]
    cases d <;> simp [hu] at h <;> subst h <;> rfl
theorem run_zero {σ : Nat → Option Nat} {t : TypeId} {z : List AV} (h : zeroT P t = some z) (w : World) : ∃ v, (zeroValue t).run P w = .ok v w ∧ RepL σ z v.cells.toList := by
  unfold zeroT at h
  cases hi : P.info? t with
  | none => simp [hi] at h
  | some i =>
    cases hz : i.zero with
    | none => simp [hi, hz] at h
    | some v =>
      simp [hi, hz] at h; subst h
      exact ⟨v, by simp [zeroValue, typeInfo, hi, hz], repL_ofCell σ _⟩
theorem run_part {σ : Nat → Option Nat} {t : TypeId} {cs : List AV} {vs : List Value} {off : Nat} {x : AV} (h : RepL σ cs vs) (hp : partA P t cs off = some x) (w : World) : ∃ v, (part t vs.toArray off).run P w = .ok v w ∧ Rep σ x v := by
  unfold partA at hp
  cases ha : isAggT P t with
  | none => simp [ha] at hp
  | some b =>
    unfold part
    rw [Sem.run_bind, run_agg ha w]
    cases b with
    | true =>
      cases hs : sizeT P t with
      | none => simp [ha, hs] at hp
      | some s =>
        simp only [ha, hs] at hp
        cases hb : Nat.ble (off + s) (lenA cs) with
        | false => simp [hb] at hp
        | true =>
          simp [hb, takeA_eq, dropA_eq] at hp
          subst hp
          simp only [Result.andThen_ok, if_true, Sem.run_bind, run_size hs w, Sem.run_pure]
          refine ⟨_, rfl, ?_⟩
          simp only [Rep]
          refine ⟨(vs.drop off).take s, (h.drop off).take s, ?_⟩
          congr 1
          simp
    | false =>
      simp only [ha, nth_eq] at hp
      obtain ⟨v, hv, hr⟩ := h.get hp
      refine ⟨v, ?_, hr⟩
      simp [hv]
end
end Ev
end Go.Proofs.Ytialgmhhkbdegaa
/- That the symbolic evaluator of the text Ea is sound, second part: one operation. -/
namespace Go.Proofs.Ytialgmhhkbdegaa
open Go.RowKit
namespace Ev

section
variable {P : Program}

theorem run_eqF {σ : Nat → Option Nat} {d : Nat} {eq : TypeId → AV → AV → Option Bool} (H : ∀ (t : TypeId) (x y : AV) (p : Bool) (u v : Value) (w : World), eq t x y = some p → Rep σ x u → Rep σ y v → (Op.equalIn d t u v).run P w = .ok p w) : ∀ (fs : List Field) (xs ys : List AV) (p : Bool) (us vs : List Value) (w : World), eqF P eq fs xs ys = some p → RepL σ xs us → RepL σ ys vs → (Op.eqFields d us.toArray vs.toArray fs).run P w = .ok p w
  | [], _, _, p, _, _, w, h, _, _ => by simp [eqF] at h; subst h; rfl
  | f :: fs, xs, ys, p, us, vs, w, h, hx, hy => by
    unfold eqF at h
    by_cases hn : f.name = "_"
    · simp [hn] at h
    · simp only [hn, decide_false, cond_false] at h
      cases ha : partA P f.type xs f.offset with
      | none => simp [ha] at h
      | some a =>
        cases hb : partA P f.type ys f.offset with
        | none => simp [ha, hb] at h
        | some b =>
          simp only [ha, hb] at h
          cases hq : eq f.type a b with
          | none => simp [hq] at h
          | some q =>
            cases hr : eqF P eq fs xs ys with
            | none => simp [hq, hr] at h
            | some r =>
              simp [hq, hr] at h
              obtain ⟨a', h1, h2⟩ := run_part hx ha w
              obtain ⟨b', h3, h4⟩ := run_part hy hb w
              have h5 := H f.type a b q a' b' w hq h2 h4
              have h6 := run_eqF H fs xs ys r us vs w hr hx hy
              simp only [Op.eqFields, ne_eq, hn, not_false_eq_true, if_true, Sem.run_bind, h1, h3, h5, Result.andThen_ok, Sem.run_ite, h6]
              subst h
              cases q <;> simp
theorem run_eqI {σ : Nat → Option Nat} {d c : Nat} {e : TypeId} {eq : TypeId → AV → AV → Option Bool} (H : ∀ (t : TypeId) (x y : AV) (p : Bool) (u v : Value) (w : World), eq t x y = some p → Rep σ x u → Rep σ y v → (Op.equalIn d t u v).run P w = .ok p w) : ∀ (is : List Nat) (xs ys : List AV) (p : Bool) (us vs : List Value) (w : World), eqI P eq e c xs ys is = some p → RepL σ xs us → RepL σ ys vs → (Op.eqItems d e c us.toArray vs.toArray is).run P w = .ok p w
  | [], _, _, p, _, _, w, h, _, _ => by simp [eqI] at h; subst h; rfl
  | i :: is, xs, ys, p, us, vs, w, h, hx, hy => by
    unfold eqI at h
    cases ha : partA P e xs (i * c) with
    | none => simp [ha] at h
    | some a =>
      cases hb : partA P e ys (i * c) with
      | none => simp [ha, hb] at h
      | some b =>
        simp only [ha, hb] at h
        cases hq : eq e a b with
        | none => simp [hq] at h
        | some q =>
          cases hr : eqI P eq e c xs ys is with
          | none => simp [hq, hr] at h
          | some r =>
            simp [hq, hr] at h
            obtain ⟨a', h1, h2⟩ := run_part hx ha w
            obtain ⟨b', h3, h4⟩ := run_part hy hb w
            have h5 := H e a b q a' b' w hq h2 h4
            have h6 := run_eqI H is xs ys r us vs w hr hx hy
            simp only [Op.eqItems, Sem.run_bind, h1, h3, h5, Result.andThen_ok, Sem.run_ite, h6]
            subst h
            cases q <;> simp
theorem run_eqA {σ : Nat → Option Nat} : ∀ (d : Nat) (t : TypeId) (x y : AV) (p : Bool) (u v : Value) (w : World), eqA P d t x y = some p → Rep σ x u → Rep σ y v → (Op.equalIn d t u v).run P w = .ok p w
  | 0, _, _, _, _, _, _, _, h, _, _ => by simp [eqA] at h
  | d + 1, t, x, y, p, u, v, w, h, hx, hy => by
    unfold eqA at h
    split at h
    · rename_i a b hu
      simp only [Rep] at hx hy
      subst hx; subst hy
      simp at h; subst h
      exact run_equalIn_bool' w d t _ _ hu
    · rename_i k0 k a k' b hu
      simp only [Rep] at hx hy
      obtain ⟨rfl, _⟩ := hx
      obtain ⟨rfl, _⟩ := hy
      by_cases hk : k = k'
      · subst hk
        simp at h; subst h
        exact run_equalIn_int w d t k _ _ _ hu
      · simp [hk] at h
    · rename_i fs xs ys hu
      simp only [Rep] at hx hy
      obtain ⟨us, hx1, rfl⟩ := hx
      obtain ⟨vs, hy1, rfl⟩ := hy
      cases hp : P.stoodInHeld t with
      | true => simp [hp] at h
      | false =>
        simp only [hp, cond_false] at h
        have hf : P.fieldsOf t = fs := by simp [Program.fieldsOf, hu]
        rw [run_equalIn_struct w d t _ _ (by rw [hf]; exact hu) hp, hf]
        exact run_eqF (run_eqA d) fs.toList xs ys p us vs w h hx1 hy1
    · rename_i n e xs ys hu
      simp only [Rep] at hx hy
      obtain ⟨us, hx1, rfl⟩ := hx
      obtain ⟨vs, hy1, rfl⟩ := hy
      cases hi : P.info? e with
      | none => simp [hi] at h
      | some inf =>
        simp only [hi] at h
        have hc : P.cellsOf e = inf.size := by simp [Program.cellsOf, hi]
        rw [run_equalIn_array w d _ _ hu hi, hc]
        exact run_eqI (run_eqA d) (List.range n) xs ys p us vs w h hx1 hy1
    · simp at h
end

/-- what one operation's run has to be, for what the evaluator makes of it -/
def AOk (P : Program) (σ : Nat → Option Nat) (w : World) (r : Result Next) : Eff → Prop
  | .val x => ∃ v, r = .ok (.value v) w ∧ Rep σ x v
  | .load id row st col n agg => (agg = false → n = 1) ∧ ∀ (b : Nat) (ty : TypeId) (vs : List Value), σ id = some b → w.heap[b]? = some (.cells vs.toArray ty (0, 0)) → row * st + col + n ≤ vs.length →
      r = .ok (.value (if agg then .agg ((vs.drop (row * st + col)).take n).toArray else vs.getD (row * st + col) undef)) w
  | .store id row st col xs => ∃ us, RepL σ xs us ∧ ∀ (b : Nat) (ty : TypeId) (vs : List Value), σ id = some b → w.heap[b]? = some (.cells vs.toArray ty (0, 0)) → row * st + col + us.length ≤ vs.length →
      r = .ok .skip (w.setRow b (setsA vs (row * st + col) us).toArray)
  | .alloc blk mk => ∃ us v, RepL σ blk.cs us ∧ r = .ok (.value v) (w.alloc (.cells us.toArray blk.ty)) ∧ ∀ (τ : Nat → Option Nat) (i : Nat), Ext σ τ → τ i = some w.heap.size → Rep τ (mk i) v
  | .app id row st n cap id' row' st' m => st' = st ∧ (n : Int) + m ≤ maxK .i64 ∧ (cap : Int) ≤ maxK .i64 ∧ ∀ (b b' : Nat) (ty ty' : TypeId) (vs vs' : List Value), σ id = some b → σ id' = some b' → w.heap[b]? = some (.cells vs.toArray ty (0, 0)) → w.heap[b']? = some (.cells vs'.toArray ty' (0, 0)) →
      (row' + m) * st' ≤ vs'.length → (row + n + m) * st ≤ vs.length → (∀ v ∈ (vs'.drop (row' * st')).take (m * st'), v.oneCell' = true) →
      r = .ok (.value (.slice (some ⟨b, row * st, none⟩) (n + m) cap)) (w.setRow b (setsA vs ((row + n) * st) ((vs'.drop (row' * st')).take (m * st'))).toArray)
  | .call f xs => ∃ us, RepL σ xs us ∧ r = (callFunc f us.toArray).run P w
  | .test c a => c = true → AOk P σ w r a
  | .bad => True

section
variable {P : Program}
theorem aok_opt {σ : Nat → Option Nat} {w : World} {r : Result Next} {o : Option AV} (h : ∀ x, o = some x → ∃ v, r = .ok (.value v) w ∧ Rep σ x v) : AOk P σ w r (ofOpt o) := by
  cases o with
  | none => simp [ofOpt, AOk]
  | some x => simp only [ofOpt, AOk]; exact h x rfl
theorem aok_yes {σ : Nat → Option Nat} {w : World} {r : Result Next} {o : Option Bool} (h : ∀ b, o = some b → r = .ok (.value (.bool b)) w) : AOk P σ w r (yesA o) := by
  cases o with
  | none => simp [yesA, AOk]
  | some b => simp only [yesA, AOk, Rep]; exact ⟨_, h b rfl, rfl⟩
theorem aok_not {σ : Nat → Option Nat} {w : World} {r : Result Next} {o : Option Bool} (h : ∀ b, o = some b → r = .ok (.value (.bool (!b))) w) : AOk P σ w r (notA o) := by
  cases o with
  | none => simp [notA, AOk]
  | some b => simp only [notA, AOk, Rep]; exact ⟨_, h b rfl, rfl⟩

theorem emod_le_self' (a b : Int) (ha : 0 ≤ a) : a % b ≤ a := by
  have key : ∀ c : Int, 0 < c → a % c ≤ a := by
    intro c hc
    have h1 := Int.mul_ediv_add_emod a c
    have h2 := Int.mul_nonneg (Int.le_of_lt hc) (Int.ediv_nonneg ha (Int.le_of_lt hc))
    omega
  rcases Int.lt_trichotomy b 0 with h | h | h
  · rw [← Int.emod_neg]; exact key (-b) (by omega)
  · subst h; simp
  · exact key b h
theorem tmod_in {k : IntKind} {a b : Int} (h : inK k a) : inK k (a.tmod b) := by
  have h0 : minK k ≤ 0 ∧ 0 ≤ maxK k := by cases k <;> simp [minK, maxK]
  obtain ⟨h1, h2⟩ := h
  rcases Int.le_total 0 a with ha | ha
  · have k1 := Int.tmod_nonneg b ha
    have k2 : a.tmod b ≤ a := by rw [Int.tmod_eq_emod_of_nonneg ha]; exact emod_le_self' a b ha
    exact ⟨by omega, by omega⟩
  · have e : a.tmod b = -((-a).tmod b) := by rw [Int.neg_tmod, Int.neg_neg]
    have k1 := Int.tmod_nonneg b (show 0 ≤ -a by omega)
    have k2 : (-a).tmod b ≤ -a := by rw [Int.tmod_eq_emod_of_nonneg (by omega)]; exact emod_le_self' (-a) b (by omega)
    rw [e]
    exact ⟨by omega, by omega⟩
theorem aok_arith {σ : Nat → Option Nat} {w : World} (t : TypeId) (op : BinOp) (k : IntKind) (a b : Int) (ha : inK k a) (h1 : op ≠ .shl) (h2 : op ≠ .shr) :
    AOk P σ w ((do pure (Next.value (← binOp op t (.int k a) (.int k b))) : Sem Next).run P w) (arithA op k a b) := by
  cases op <;> simp only [arithA, AOk, ne_eq, reduceCtorEq, not_true_eq_false, not_false_eq_true] at h1 h2 ⊢
  all_goals first
    | (intro hb
       have hb' : b ≠ 0 := by simpa using hb
       first
         | (refine ⟨_, ?_, rep_wrap _ _⟩
            simp [binOp, Op.intDiv, hb']; done)
         | (refine ⟨_, ?_, rep_int (tmod_in ha)⟩
            simp [binOp, Op.intDiv, hb']; done))
    | (refine ⟨_, ?_, rep_wrap _ _⟩
       simp [binOp, Op.intArith, Op.intBits]; done)
    | (refine ⟨_, ?_, rep_bool _⟩
       simp [binOp, Op.intCmp]; done)
    | trivial

theorem run_stores (g o : Nat) (t : TypeId) : ∀ (us : List Value) (i : Nat) (cur : List Value) (w : World), w.heap[g]? = some (.cells cur.toArray t (0, 0)) → o + i + us.length ≤ cur.length → (∀ v ∈ us, v.oneCell' = true) →
    (storeCells ⟨g, o, none⟩ us i).run P w = .ok () (w.setRow g (setsA cur (o + i) us).toArray)
  | [], i, cur, w, hg, _, _ => by
    simp only [storeCells, setsA]
    rw [setRow_self w g cur.toArray t (0, 0) hg]
    rfl
  | v :: us, i, cur, w, hg, hl, h1 => by
    have hi : o + i < cur.length := by simp at hl; omega
    have hadd : (⟨g, o, none⟩ : Addr).add i = ⟨g, o + i, none⟩ := by unfold Addr.add; split <;> simp_all
    have hcell : w.cell? ⟨g, o + i, none⟩ = some cur[o + i] := by simp [World.cell?, hg, hi]
    have hfro : w.frozen? ⟨g, o + i, none⟩ = false := by simp [World.frozen?, hg]
    have hst : (store ((⟨g, o, none⟩ : Addr).add i) v).run P w = .ok () (w.setRow g (cur.set (o + i) v).toArray) := by
      rw [hadd, run_store P w _ v _ (h1 v (by simp)), hcell]
      simp [hfro, setCell_eq_setRow w g (o + i) cur.toArray t (0, 0) v hg]
    have hh := setRow_heap w g cur.toArray (cur.set (o + i) v).toArray t (0, 0) hg
    have ih := run_stores g o t us (i + 1) (cur.set (o + i) v) _ hh (by simp at hl ⊢; omega) (fun x hx => h1 x (by simp [hx]))
    simp only [storeCells, Sem.run_bind, hst, Result.andThen_ok, ih, setRow_setRow, setsA, setA_eq]
    rfl

theorem run_loads {w : World} {b off n : Nat} {ty : TypeId} {vs : List Value} (hw : w.heap[b]? = some (.cells vs.toArray ty (0, 0))) (hl : off + n ≤ vs.length) :
    (loadCells ⟨b, off, none⟩ n).run P w = .ok ((vs.drop off).take n).toArray w := by
  have hlen : ((vs.drop off).take n).length = n := by simp; omega
  have := run_loadCells_list (P := P) w ⟨b, off, none⟩ ((vs.drop off).take n) (fun j v hv => by
    have hadd : (⟨b, off, none⟩ : Addr).add j = ⟨b, off + j, none⟩ := by unfold Addr.add; split <;> simp_all
    rw [hadd, cell_of_row w b (off + j) vs.toArray ty (0, 0) hw]
    rw [List.getElem?_take] at hv
    split at hv
    · rw [List.getElem?_drop] at hv; simpa using hv
    · simp at hv)
  rw [hlen] at this
  exact this
theorem run_load1 {w : World} {b off : Nat} {ty : TypeId} {vs : List Value} (hw : w.heap[b]? = some (.cells vs.toArray ty (0, 0))) (hl : off + 1 ≤ vs.length) :
    (load ⟨b, off, none⟩).run P w = .ok (vs.getD off undef) w := by
  rw [run_load, cell_of_row w b off vs.toArray ty (0, 0) hw]
  simp [show off < vs.length by omega, List.getD]

theorem all_one {σ : Nat → Option Nat} {xs : List AV} {vs : List Value} (h : RepL σ xs vs) (ho : xs.all one = true) : ∀ v ∈ vs, v.oneCell' = true := by
  intro v hv
  obtain ⟨i, hi, rfl⟩ := List.getElem_of_mem hv
  have hx : i < xs.length := by rw [h.length]; exact hi
  exact one_cell ((repL_iff.1 h).2 i xs[i] vs[i] (List.getElem?_eq_getElem hx) (List.getElem?_eq_getElem hi)) (List.all_eq_true.1 ho _ (List.getElem_mem hx))

variable {σ : Nat → Option Nat} {w : World} {a : Go.Act} {s : St}

theorem eff_load (hρ : ∀ x, Rep σ (s.eval x) (a.eval x)) (o : Oper) (t : TypeId) (x : Operand) (hop : o.op = .load t x) : AOk P σ w ((execOp a.eval o).run P w) (eff P (.load t x) s.eval) := by
  have hx := hρ x
  simp only [eff]
  split
  · rename_i id row st col n h1 h2 h3
    rw [h1] at hx
    simp only [Rep] at hx
    obtain ⟨b, hb, hav⟩ := hx
    simp only [AOk]
    refine ⟨by simp, fun b' ty vs hσ hw hl => ?_⟩
    rw [hb] at hσ; cases hσ
    simp [execOp, hop, hav, Instr.loadAt, Instr.sureAddr, loadVar, run_agg h2, run_size h3, run_loads hw hl]
  · rename_i id row st col h1 h2
    rw [h1] at hx
    simp only [Rep] at hx
    obtain ⟨b, hb, hav⟩ := hx
    simp only [AOk]
    refine ⟨by simp, fun b' ty vs hσ hw hl => ?_⟩
    rw [hb] at hσ; cases hσ
    have := run_load1 (P := P) hw hl
    simp only [execOp, hop, hav, Instr.loadAt, Instr.sureAddr, loadVar, Sem.run_bind, Sem.run_pure, Result.andThen_ok, run_agg h2, Bool.false_eq_true, if_false, this]
  · simp only [AOk]

theorem eff_store (hρ : ∀ x, Rep σ (s.eval x) (a.eval x)) (o : Oper) (t : TypeId) (x y : Operand) (hop : o.op = .store t x y) : AOk P σ w ((execOp a.eval o).run P w) (eff P (.store t x y) s.eval) := by
  have hx := hρ x
  have hy := hρ y
  simp only [eff]
  split
  · rename_i id row st col cs n h1 h2 h3
    cases hb : (Nat.beq (lenA cs) n && cs.all one) with
    | false => simp only [cond_false, AOk]
    | true =>
      simp only [Bool.and_eq_true, Nat.beq_eq, lenA_eq] at hb
      rw [h1] at hx
      simp only [Rep] at hx
      obtain ⟨b, hb1, hav⟩ := hx
      have hcr := rep_cells hy h2
      simp only [cond_true, AOk]
      refine ⟨_, hcr, fun b' ty vs hσ hw hl => ?_⟩
      rw [hb1] at hσ; cases hσ
      have hsz : (a.eval y).cells.size = n := by have := hcr.length; simp at this; omega
      have h5 := run_stores (P := P) b (row * st + col) ty (a.eval y).cells.toList 0 vs w hw (by simpa using hl) (all_one hcr hb.2)
      simp only [execOp, hop, hav, Instr.storeAt, Instr.sureAddr, storeVar, Sem.run_bind, Sem.run_pure, Result.andThen_ok, run_size h3, hsz, ne_eq, not_true_eq_false, if_false, h5, Nat.add_zero]
  · simp only [AOk]
end
end Ev
end Go.Proofs.Ytialgmhhkbdegaa
/- That the symbolic evaluator of the text Ea is sound: each operation. -/
namespace Go.Proofs.Ytialgmhhkbdegaa
open Go.RowKit
namespace Ev
section
variable {P : Program} {σ : Nat → Option Nat} {w : World} {a : Go.Act} {s : St}

theorem repL_ops (hρ : ∀ x, Rep σ (s.eval x) (a.eval x)) (l : List Operand) : RepL σ (l.map s.eval) (l.map a.eval) := RepL.map hρ l

theorem eff_build (hρ : ∀ x, Rep σ (s.eval x) (a.eval x)) (o : Oper) (t : TypeId) (parts : Array (Nat × Operand)) (hop : o.op = .build t parts) : AOk P σ w ((execOp a.eval o).run P w) (eff P (.build t parts) s.eval) := by
  simp only [eff]
  refine aok_opt fun x hx => ?_
  have hpl : (parts.toList.map fun p => (p.1, s.eval p.2)).length = (parts.map fun (i, x) => (i, a.eval x)).toList.length ∧ ∀ (i : Nat) (p : Nat × AV) (q : Nat × Value), (parts.toList.map fun p => (p.1, s.eval p.2))[i]? = some p → (parts.map fun (i, x) => (i, a.eval x)).toList[i]? = some q → p.1 = q.1 ∧ Rep σ p.2 q.2 := by
    refine ⟨by simp, fun i p q hp hq => ?_⟩
    simp only [Array.toList_map, List.getElem?_map] at hp hq
    cases hi : parts.toList[i]? with
    | none => simp [hi] at hp
    | some e =>
      simp [hi] at hp hq
      subst hp; subst hq
      exact ⟨rfl, hρ _⟩
  unfold buildA at hx
  cases hz : zeroT P t with
  | none => simp [hz] at hx
  | some z =>
    cases hu : P.underlying t with
    | none => simp [hz, hu] at hx
    | some d =>
      have hz' := hz
      unfold zeroT at hz'
      cases hit : P.info? t with
      | none => simp [hit] at hz'
      | some it =>
        cases hiz : it.zero with
        | none => simp [hit, hiz] at hz'
        | some zv =>
          simp [hit, hiz] at hz'
          have hzr : RepL σ z zv.cells.toList := by rw [← hz']; exact repL_ofCell σ _
          have key : ∀ cells, P.built t (parts.map fun (i, x) => (i, a.eval x)).toList = some cells → (execOp a.eval o).run P w = .ok (.value (.agg cells)) w := by
            intro cells hc
            unfold execOp
            simp only [hop, Sem.run_bind, run_build w t _ cells hc, Result.andThen_ok, Sem.run_pure]
          cases d <;> try (simp [hz, hu] at hx; done)
          case array n e =>
            cases hs : sizeT P e with
            | none => simp [hz, hu, hs] at hx
            | some sz =>
              simp only [hz, hu, hs, Option.map_eq_some_iff] at hx
              obtain ⟨r, hf, rfl⟩ := hx
              obtain ⟨us, h1, h2, _⟩ := fill_rep _ _ _ _ _ _ hzr hpl hf
              unfold sizeT at hs
              cases hie : P.info? e with
              | none => simp [hie] at hs
              | some ie =>
                simp [hie] at hs; subst hs
                refine ⟨_, key us.toArray ?_, by simp only [Rep]; exact ⟨us, h2, rfl⟩⟩
                unfold Program.built
                simp only [hit, hu, hiz, hie]
                simpa using h1
          case struct fields =>
            cases hp : placesA P fields.toList with
            | none => simp [hz, hu, hp] at hx
            | some places =>
              simp only [hz, hu, hp, Option.map_eq_some_iff] at hx
              obtain ⟨r, hf, rfl⟩ := hx
              have hpm : ∀ (fs : List Field) (pl : List (Nat × Nat)), placesA P fs = some pl → fs.mapM (fun f => (P.info? f.type).map fun i => (f.offset, i.size)) = some pl := by
                intro fs
                induction fs with
                | nil => intro pl h; simp [placesA] at h; subst h; rfl
                | cons f fs ih =>
                  intro pl h
                  simp only [placesA, sizeT] at h
                  cases hi : P.info? f.type with
                  | none => simp [hi] at h
                  | some i =>
                    cases hr : placesA P fs with
                    | none => simp [hi, hr] at h
                    | some r =>
                      simp [hi, hr] at h; subst h
                      simp [List.mapM_cons, hi, ih r hr]
              have hnth : nth places = (places.toArray[·]?) := by funext i; simp [nth_eq]
              rw [hnth] at hf
              obtain ⟨us, h1, h2, _⟩ := fill_rep _ _ _ _ _ _ hzr hpl hf
              refine ⟨_, key us.toArray ?_, by simp only [Rep]; exact ⟨us, h2, rfl⟩⟩
              unfold Program.built
              simp only [hit, hu, hiz, hpm _ _ hp]
              simpa using h1

theorem fdiv_in {k : IntKind} {a : Int} (h : inK k a) (n : Nat) : inK k (a.fdiv (2 ^ n)) := by
  have h0 : minK k ≤ 0 ∧ 0 ≤ maxK k := by cases k <;> simp [minK, maxK]
  obtain ⟨h1, h2⟩ := h
  have hp : (0 : Int) < 2 ^ n := Int.pow_pos (by decide)
  rw [Int.fdiv_eq_ediv_of_nonneg _ (Int.le_of_lt hp)]
  rcases Int.le_total 0 a with ha | ha
  · have k1 := Int.ediv_nonneg ha (Int.le_of_lt hp)
    have k2 := Int.ediv_le_self (2 ^ n) ha
    exact ⟨by omega, by omega⟩
  · have k1 : a ≤ a / 2 ^ n := by
      rw [Int.le_ediv_iff_mul_le hp]
      have : a * 2 ^ n ≤ a * 1 := Int.mul_le_mul_of_nonpos_left ha (by omega)
      omega
    have k2 : a / 2 ^ n ≤ 0 := Int.le_of_lt_add_one ((Int.ediv_lt_iff_lt_mul hp).2 (by simp; omega))
    exact ⟨by omega, by omega⟩
theorem aok_bin (op : BinOp) (t : TypeId) (xo yo : Operand) (ty : TypeId) (o : Oper) (hop : o.op = .binOp op t xo yo ty) {x y : AV} (hx : Rep σ x (a.eval xo)) (hy : Rep σ y (a.eval yo)) :
    AOk P σ w ((execOp a.eval o).run P w) (binA P op t x y) := by
  have hrun : (execOp a.eval o).run P w = ((eqGuard op t xo yo (a.eval xo) (a.eval yo)).run P w).andThen fun _ w' => ((do pure (Next.value (← binOp op t (a.eval xo) (a.eval yo))) : Sem Next).run P w') := by
    unfold execOp
    simp only [hop, Sem.run_bind]
    cases (eqGuard op t xo yo (a.eval xo) (a.eval yo)).run P w <;> rfl
  have hshift : ∀ (op' : BinOp) (k k' : IntKind) (m n : Int), inK k m → (op' = .shl ∨ op' = .shr) → op = op' → a.eval xo = .int k m → a.eval yo = .int k' n → AOk P σ w ((execOp a.eval o).run P w) (shiftA op' k m n) := by
    intro op' k k' m n hm hs ho h1 h2
    subst ho
    rw [hrun, h1, h2]
    rcases hs with rfl | rfl
    · simp only [shiftA, AOk]
      intro hb
      have hb' : ¬ n < 0 := by simpa using hb
      refine ⟨_, ?_, rep_wrap _ _⟩
      simp [eqGuard, binOp, Op.shift, hb']
    · simp only [shiftA, AOk]
      intro hb
      have hb' : ¬ n < 0 := by simpa using hb
      refine ⟨_, ?_, rep_int (fdiv_in hm _)⟩
      simp [eqGuard, binOp, Op.shift, hb']
  unfold binA
  split
  · simp only [Rep] at hx hy
    exact hshift .shl _ _ _ _ hx.2 (.inl rfl) rfl hx.1 hy.1
  · simp only [Rep] at hx hy
    exact hshift .shr _ _ _ _ hx.2 (.inr rfl) rfl hx.1 hy.1
  · rename_i k m k' n hn1 hn2
    simp only [Rep] at hx hy
    by_cases hk : k = k'
    · subst hk
      simp only [decide_true, cond_true]
      have h1 : op ≠ .shl := hn1
      have h2 : op ≠ .shr := hn2
      have hg : (eqGuard op t xo yo (.int k m) (.int k n)).run P w = .ok () w := by cases op <;> simp [eqGuard]
      rw [hrun, hx.1, hy.1, hg, Result.andThen_ok]
      exact aok_arith t op k m n hx.2 h1 h2
    · simp only [hk, decide_false, cond_false, AOk]
  · rename_i p q
    simp only [Rep] at hx hy
    split
    · rename_i hu
      simp only [cond_true, AOk]
      refine ⟨_, ?_, by simp only [Rep]; rfl⟩
      rw [hrun, hx, hy]
      have := run_equalIn_bool' (P := P) w 9999 t p q hu
      simp [eqGuard, binOp, Op.equal, Op.maxDepth, this]
    · simp only [cond_false, AOk]
  · rename_i p q
    simp only [Rep] at hx hy
    split
    · rename_i hu
      simp only [cond_true, AOk]
      refine ⟨_, ?_, by simp only [Rep]; rfl⟩
      rw [hrun, hx, hy]
      have := run_equalIn_bool' (P := P) w 9999 t p q hu
      simp [eqGuard, binOp, Op.equal, Op.maxDepth, this]
    · simp only [cond_false, AOk]
  · rename_i xs ys
    cases hm : P.eqGuardType P.depth t with
    | true => simp only [cond_true, AOk]
    | false =>
      simp only [cond_false]
      refine aok_yes fun b hb => ?_
      have h1 := run_eqA Op.maxDepth t _ _ b _ _ w hb hx hy
      simp only [Rep] at hx hy
      obtain ⟨us, hx1, hx2⟩ := hx
      obtain ⟨vs, hy1, hy2⟩ := hy
      rw [hrun, hx2, hy2, run_eqGuard_agg w _ t xo yo _ _ hm]
      rw [hx2, hy2] at h1
      simp [run_eql_struct, h1, show (10000 : Nat) = Op.maxDepth from rfl]
  · rename_i xs ys
    cases hm : P.eqGuardType P.depth t with
    | true => simp only [cond_true, AOk]
    | false =>
      simp only [cond_false]
      refine aok_not fun b hb => ?_
      have h1 := run_eqA Op.maxDepth t _ _ b _ _ w hb hx hy
      simp only [Rep] at hx hy
      obtain ⟨us, hx1, hx2⟩ := hx
      obtain ⟨vs, hy1, hy2⟩ := hy
      rw [hrun, hx2, hy2, run_eqGuard_agg w _ t xo yo _ _ hm]
      rw [hx2, hy2] at h1
      simp [run_neq_struct, h1, show (10000 : Nat) = Op.maxDepth from rfl]
  · simp only [AOk]

theorem eff_un (hρ : ∀ x, Rep σ (s.eval x) (a.eval x)) (o : Oper) (op : UnOp) (t : TypeId) (x : Operand) (hop : o.op = .unOp op t x) : AOk P σ w ((execOp a.eval o).run P w) (eff P (.unOp op t x) s.eval) := by
  have hx := hρ x
  simp only [eff, unA]
  split
  · rename_i k n h
    rw [h] at hx; simp only [Rep] at hx
    simp only [AOk]
    refine ⟨_, ?_, rep_wrap _ _⟩
    simp [execOp, hop, hx.1, Op.unary, Op.intArith]
  · rename_i b h
    rw [h] at hx; simp only [Rep] at hx
    simp only [AOk]
    refine ⟨_, ?_, by simp only [Rep]; rfl⟩
    simp [execOp, hop, hx, Op.unary]
  · simp only [AOk]

theorem eff_conv (hρ : ∀ x, Rep σ (s.eval x) (a.eval x)) (o : Oper) (src dst : TypeId) (x : Operand) (hop : o.op = .convert src dst x) : AOk P σ w ((execOp a.eval o).run P w) (eff P (.convert src dst x) s.eval) := by
  have hx := hρ x
  simp only [eff, convA]
  split
  · rename_i k0 k k' n hu1 hu2 h
    rw [h] at hx; simp only [Rep] at hx
    simp only [AOk]
    refine ⟨_, ?_, rep_wrap _ _⟩
    simp [execOp, hop, hx.1, convert, run_underlying hu1, run_underlying hu2, Conv.intToInt]
  · simp only [AOk]

theorem eff_field (hρ : ∀ x, Rep σ (s.eval x) (a.eval x)) (o : Oper) (t : TypeId) (x : Operand) (i : Nat) (hop : o.op = .field t x i) : AOk P σ w ((execOp a.eval o).run P w) (eff P (.field t x i) s.eval) := by
  have hx := hρ x
  simp only [eff]
  split
  · rename_i cs fs h hu
    rw [h] at hx; simp only [Rep] at hx
    obtain ⟨us, h1, h2⟩ := hx
    simp only [nth_eq]
    cases hf : fs.toList[i]? with
    | none => simp only [AOk]
    | some f =>
      refine aok_opt fun y hy => ?_
      obtain ⟨v, hv1, hv2⟩ := run_part h1 hy w
      refine ⟨v, ?_, hv2⟩
      have hf' : fs[i]? = some f := by simpa using hf
      simp [execOp, hop, h2, Instr.field, run_underlying hu, hf', asAgg, hv1]
  · simp only [AOk]

theorem eff_fieldAddr (hρ : ∀ x, Rep σ (s.eval x) (a.eval x)) (o : Oper) (t : TypeId) (x : Operand) (i : Nat) (hop : o.op = .fieldAddr t x i) : AOk P σ w ((execOp a.eval o).run P w) (eff P (.fieldAddr t x i) s.eval) := by
  have hx := hρ x
  simp only [eff]
  split
  · rename_i id row st col fs h hu
    rw [h] at hx; simp only [Rep] at hx
    obtain ⟨b, h1, h2⟩ := hx
    simp only [nth_eq]
    cases hf : fs.toList[i]? with
    | none => simp only [AOk]
    | some f =>
      simp only
      cases hs : sizeT P f.type with
      | none => simp only [AOk]
      | some sz =>
        simp only
        cases hz : Nat.beq sz 0 with
        | true => simp only [cond_true, AOk]
        | false =>
          have hz' : sz ≠ 0 := by intro e; subst e; simp at hz
          simp only [cond_false, AOk]
          refine ⟨.pointer (some ⟨b, row * st + (col + f.offset), none⟩), ?_, by simp only [Rep]; exact ⟨b, h1, rfl⟩⟩
          have hf' : fs[i]? = some f := by simpa using hf
          simp [execOp, hop, h2, Instr.fieldAt, run_underlying hu, hf', Instr.sureAddr, fieldPlace, run_size hs, hz', Addr.add_lit, Nat.add_assoc]
  · simp only [AOk]

theorem eff_indexAddr (hρ : ∀ x, Rep σ (s.eval x) (a.eval x)) (o : Oper) (t : TypeId) (x i : Operand) (hop : o.op = .indexAddr t x i) : AOk P σ w ((execOp a.eval o).run P w) (eff P (.indexAddr t x i) s.eval) := by
  have hx := hρ x
  have hi := hρ i
  simp only [eff]
  split
  · rename_i id row st col k n len e h h' hu
    rw [h] at hx; rw [h'] at hi; simp only [Rep] at hx hi
    replace hi := hi.1
    obtain ⟨b, h1, h2⟩ := hx
    cases hs : sizeT P e with
    | none => simp only [AOk]
    | some sz =>
      simp only [AOk]
      intro hb
      have hb' := of_decide_eq_true hb
      refine ⟨.pointer (some ⟨b, row * st + (col + n.toNat * sz), none⟩), ?_, by simp only [Rep]; exact ⟨b, h1, rfl⟩⟩
      simp [execOp, hop, h2, hi, Instr.indexAt, asIntOf, run_underlying hu, Instr.sureAddr, run_size hs, hb', Addr.add_lit, Nat.add_assoc]
  · rename_i id row st len cap k n e h h' hu
    rw [h] at hx; rw [h'] at hi; simp only [Rep] at hx hi
    replace hi := hi.1
    obtain ⟨_, _, b, h1, h2⟩ := hx
    cases hs : sizeT P e with
    | none => simp only [AOk]
    | some sz =>
      simp only
      cases hz : Nat.beq st sz with
      | false => simp only [cond_false, AOk]
      | true =>
        have hz' : st = sz := by simpa using hz
        subst hz'
        simp only [cond_true, AOk]
        intro hb
        have hb' := of_decide_eq_true hb
        refine ⟨.pointer (some ⟨b, (row + n.toNat) * st + 0, none⟩), ?_, by simp only [Rep]; exact ⟨b, h1, rfl⟩⟩
        simp [execOp, hop, h2, hi, Instr.indexAt, asIntOf, run_underlying hu, run_size hs, hb', Addr.add_lit, Nat.add_mul]
  · simp only [AOk]

theorem eff_index (hρ : ∀ x, Rep σ (s.eval x) (a.eval x)) (o : Oper) (t : TypeId) (x i : Operand) (hop : o.op = .index t x i) : AOk P σ w ((execOp a.eval o).run P w) (eff P (.index t x i) s.eval) := by
  have hx := hρ x
  have hi := hρ i
  simp only [eff]
  split
  · rename_i s0 k n h h' hu
    rw [h] at hx; rw [h'] at hi; simp only [Rep] at hx hi
    replace hi := hi.1
    simp only [AOk]
    intro hb
    have hb' := of_decide_eq_true hb
    have hlt : n.toNat < s0.size := by omega
    have hget : s0[n.toNat]? = some (s0.data.toList.getD n.toNat 0) := by
      have hlt' : n.toNat < s0.data.size := hlt
      rw [getElem?_pos s0 n.toNat hlt]
      congr 1
      simp only [List.getD, Array.getElem?_toList, Array.getElem?_eq_getElem hlt', Option.getD_some]
      rfl
    refine ⟨_, ?_, rep_int ⟨by simp only [minK]; omega, ?_⟩⟩
    · simp only [execOp, hop, hx, hi, Instr.index, asIntOf, Sem.run_bind, Sem.run_pure, Result.andThen_ok, run_underlying hu, if_pos hb'.1, hget]
    · have := UInt8.toNat_lt (s0.data.toList.getD n.toNat 0)
      simp only [maxK]; omega
  · rename_i cs k n len e h h' hu
    rw [h] at hx; rw [h'] at hi; simp only [Rep] at hx hi
    replace hi := hi.1
    obtain ⟨us, h1, h2⟩ := hx
    cases hs : sizeT P e with
    | none => simp only [AOk]
    | some sz =>
      simp only [AOk]
      intro hb
      have hb' := of_decide_eq_true hb
      refine aok_opt fun y hy => ?_
      obtain ⟨v, hv1, hv2⟩ := run_part h1 hy w
      refine ⟨v, ?_, hv2⟩
      simp [execOp, hop, h2, hi, Instr.index, asIntOf, run_underlying hu, run_size hs, hb', hv1]
  · simp only [AOk]

theorem eff_alloc (o : Oper) (t : TypeId) (hop : o.op = .alloc t) : AOk P σ w ((execOp a.eval o).run P w) (eff P (.alloc t) s.eval) := by
  simp only [eff]
  cases hz : zeroT P t with
  | none => simp only [AOk]
  | some z =>
    obtain ⟨v, h1, h2⟩ := run_zero (σ := σ) hz w
    simp only [AOk]
    refine ⟨v.cells.toList, .pointer (some ⟨w.heap.size, 0, none⟩), h2, ?_, fun τ i _ hi => ?_⟩
    · simp [execOp, hop, Instr.alloc, h1, newVar, newRow]
    · simp only [Rep]; exact ⟨_, hi, by simp⟩

theorem eff_box (hρ : ∀ x, Rep σ (s.eval x) (a.eval x)) (o : Oper) (t : TypeId) (x : Operand) (hop : o.op = .box t x) : AOk P σ w ((execOp a.eval o).run P w) (eff P (.box t x) s.eval) := by
  simp only [eff]
  cases hc : cellsA (s.eval x) with
  | none => simp only [AOk]
  | some cs =>
    have h2 := rep_cells (hρ x) hc
    simp only [AOk]
    refine ⟨(a.eval x).cells.toList, .pointer (some ⟨w.heap.size, 0, none⟩), h2, ?_, fun τ i _ hi => ?_⟩
    · simp [execOp, hop, Instr.box, newVar, newRow]
    · simp only [Rep]; exact ⟨_, hi, by simp⟩

theorem zeros_rep {σ : Nat → Option Nat} {z : List AV} {sz n : Nat} {v : Value} (h2 : RepL σ z v.cells.toList) (h1 : 1 ≤ sz) (hb3 : z.length = sz) : RepL σ (zerosA z sz n) ((List.range n).map (v.cells[· % v.cells.size]!)) := by
  have hvl : v.cells.size = sz := by have := h2.length; simp at this; omega
  refine repL_iff.2 ⟨by simp [zerosA], fun i x u hx hu => ?_⟩
  simp only [zerosA, List.getElem?_map] at hx hu
  cases hr : (List.range n)[i]? with
  | none => simp [hr] at hx
  | some j =>
    simp [hr] at hx hu
    have hj : j % sz < v.cells.toList.length := by simp [hvl]; exact Nat.mod_lt _ (by omega)
    have hjz : j % sz < z.length := by rw [h2.length]; exact hj
    rw [nth_eq, List.getElem?_eq_getElem hjz] at hx
    simp only at hx
    subst hx; subst hu
    refine (repL_iff.1 h2).2 (j % sz) _ _ (List.getElem?_eq_getElem hjz) ?_
    rw [hvl, getElem!_pos v.cells (j % sz) (by simpa using hj)]
    rw [List.getElem?_eq_getElem hj]
    simp

theorem eff_buildSlice (hρ : ∀ x, Rep σ (s.eval x) (a.eval x)) (o : Oper) (t : TypeId) (len : Nat) (parts : Array (Nat × Operand)) (hop : o.op = .buildSlice t len parts) : AOk P σ w ((execOp a.eval o).run P w) (eff P (.buildSlice t len parts) s.eval) := by
  simp only [eff]
  split
  · rename_i e hu
    split
    · rename_i sz z hs hz
      cases hb : (Nat.ble (len * sz) 4096 && (Nat.ble 1 (len * sz) && Nat.beq (lenA z) sz)) with
      | false => simp only [cond_false, AOk]
      | true =>
        simp only [Bool.and_eq_true, Nat.ble_eq, Nat.beq_eq, lenA_eq] at hb
        obtain ⟨hb1, hb2, hb3⟩ := hb
        simp only [cond_true]
        split
        · rename_i cs hf
          have hpl : (parts.toList.map fun p => (p.1, s.eval p.2)).length = (parts.map fun (i, x) => (i, a.eval x)).toList.length ∧ ∀ (i : Nat) (p : Nat × AV) (q : Nat × Value), (parts.toList.map fun p => (p.1, s.eval p.2))[i]? = some p → (parts.map fun (i, x) => (i, a.eval x)).toList[i]? = some q → p.1 = q.1 ∧ Rep σ p.2 q.2 := by
            refine ⟨by simp, fun i p q hp hq => ?_⟩
            simp only [Array.toList_map, List.getElem?_map] at hp hq
            cases hi : parts.toList[i]? with
            | none => simp [hi] at hp
            | some e =>
              simp [hi] at hp hq
              subst hp; subst hq
              exact ⟨rfl, hρ _⟩
          obtain ⟨v, h1, h2⟩ := run_zero (σ := σ) hz w
          have hvl : v.cells.size = sz := by have := h2.length; simp at this; omega
          have hs0 : sz ≠ 0 := by intro e; subst e; simp at hb2
          have hrep : RepL σ (zerosA z sz (len * sz)) ((List.range (len * sz)).map (v.cells[· % v.cells.size]!)) := by
            refine repL_iff.2 ⟨by simp [zerosA], fun i x u hx hu => ?_⟩
            simp only [zerosA, List.getElem?_map] at hx hu
            cases hr : (List.range (len * sz))[i]? with
            | none => simp [hr] at hx
            | some j =>
              simp [hr] at hx hu
              have hj : j % sz < v.cells.toList.length := by simp [hvl]; exact Nat.mod_lt _ (by omega)
              have hjz : j % sz < z.length := by rw [h2.length]; exact hj
              rw [nth_eq, List.getElem?_eq_getElem hjz] at hx
              simp only at hx
              subst hx; subst hu
              refine (repL_iff.1 h2).2 (j % sz) _ _ (List.getElem?_eq_getElem hjz) ?_
              rw [hvl, getElem!_pos v.cells (j % sz) (by simpa using hj)]
              rw [List.getElem?_eq_getElem hj]
              simp
          obtain ⟨us, h3, h4, _⟩ := fill_rep _ _ _ _ _ _ hrep hpl hf
          simp only [AOk]
          refine ⟨us, .slice (some ⟨w.heap.size, 0, none⟩) len len, h4, ?_, fun τ i _ hi => ?_⟩
          · have hbig : ¬ len * sz > 2 ^ 24 := by omega
            have h0 : ¬ len * sz = 0 := by omega
            have hcells : (Array.range (len * sz)).map (v.cells[· % v.cells.size]!) = ((List.range (len * sz)).map (v.cells[· % v.cells.size]!)).toArray := by
              apply Array.ext'; simp
            simp only [execOp, hop, Instr.buildSlice, Sem.run_bind, run_underlying hu, Result.andThen_ok, run_size hs, if_neg hbig, if_neg h0, h1, Sem.run_pure, hcells, h3, newRow, run_newObj]
            rfl
          · simp only [Rep]
            have : len ≤ len * sz := Nat.le_mul_of_pos_right len (by omega)
            refine ⟨?_, ?_, _, hi, by simp⟩ <;> (simp only [maxK]; omega)
        · simp only [AOk]
    · simp only [AOk]
  · simp only [AOk]

theorem max_run : ∀ (l : List AV) (vs : List Value) (k : IntKind) (x : Int) (y : AV), inK k x → RepL σ l vs → maxA k x l = some y → ∃ v, (vs.foldlM Builtin.max2 (.int k x)).run P w = .ok v w ∧ Rep σ y v
  | [], vs, k, x, y, hx, h, hm => by
    simp only [RepL] at h; subst h
    simp [maxA] at hm; subst hm
    exact ⟨_, rfl, rep_int hx⟩
  | z :: l, vs, k, x, y, hx, h, hm => by
    simp only [RepL] at h
    obtain ⟨v, us, rfl, h1, h2⟩ := h
    cases z <;> simp only [maxA] at hm <;> try (simp at hm; done)
    rename_i k' n
    by_cases hk : k = k'
    · subst hk
      simp only [decide_true, cond_true] at hm
      simp only [Rep] at h1
      obtain ⟨rfl, h1⟩ := h1
      obtain ⟨r, hr1, hr2⟩ := max_run l us k _ y (by unfold inK at *; omega) h2 hm
      refine ⟨r, ?_, hr2⟩
      simp only [List.foldlM_cons, Builtin.max2, Sem.run_bind, Sem.run_pure, Result.andThen_ok]
      rw [show (if n > x then n else x) = max x n by split <;> omega]
      exact hr1
    · simp [hk] at hm
theorem min_run : ∀ (l : List AV) (vs : List Value) (k : IntKind) (x : Int) (y : AV), inK k x → RepL σ l vs → minA k x l = some y → ∃ v, (vs.foldlM Builtin.min2 (.int k x)).run P w = .ok v w ∧ Rep σ y v
  | [], vs, k, x, y, hx, h, hm => by
    simp only [RepL] at h; subst h
    simp [minA] at hm; subst hm
    exact ⟨_, rfl, rep_int hx⟩
  | z :: l, vs, k, x, y, hx, h, hm => by
    simp only [RepL] at h
    obtain ⟨v, us, rfl, h1, h2⟩ := h
    cases z <;> simp only [minA] at hm <;> try (simp at hm; done)
    rename_i k' n
    by_cases hk : k = k'
    · subst hk
      simp only [decide_true, cond_true] at hm
      simp only [Rep] at h1
      obtain ⟨rfl, h1⟩ := h1
      obtain ⟨r, hr1, hr2⟩ := min_run l us k _ y (by unfold inK at *; omega) h2 hm
      refine ⟨r, ?_, hr2⟩
      simp only [List.foldlM_cons, Builtin.min2, Sem.run_bind, Sem.run_pure, Result.andThen_ok]
      rw [show (if n < x then n else x) = min x n by split <;> omega]
      exact hr1
    · simp [hk] at hm

theorem isSliceO_spec {o : Option TypeId} (h : isSliceO P o = true) : ∃ t e, o = some t ∧ P.underlying t = some (.slice e) := by
  cases o with
  | none => simp [isSliceO] at h
  | some t =>
    simp only [isSliceO] at h
    split at h
    · rename_i e hu; exact ⟨t, e, rfl, hu⟩
    · simp at h
theorem eff_call (hρ : ∀ x, Rep σ (s.eval x) (a.eval x)) (o : Oper) (c : Call) (hop : o.op = .call c) : AOk P σ w ((execOp a.eval o).run P w) (eff P (.call c) s.eval) := by
  have hargs : RepL σ (c.args.toList.map s.eval) (c.args.map a.eval).toList := by simpa using repL_ops hρ c.args.toList
  obtain ⟨callee, args, argTypes⟩ := c
  simp only at hargs
  cases callee with
  | invoke r m => simp only [eff, AOk]
  | value f =>
    simp only [eff]
    split
    · rename_i g first captured hf
      have hfr := hρ f
      rw [hf] at hfr; simp only [Rep] at hfr
      obtain ⟨x, y, h1, h2, h3⟩ := hfr
      simp only [AOk]
      refine ⟨x ++ (args.map a.eval).toList ++ y, (h1.append hargs).append h2, ?_⟩
      have he : (x ++ (args.map a.eval).toList ++ y).toArray = x.toArray ++ args.map a.eval ++ y.toArray := by apply Array.ext'; simp
      rw [he]
      simp only [execOp, hop, resolve, h3, Deferred.ofValue, invoke, Sem.run_bind, Sem.run_pure, Result.andThen_ok]
    · simp only [AOk]
  | builtin b =>
    generalize hxs : args.toList.map s.eval = xs at hargs
    simp only [eff, hxs, builtinA]
    split
    · rename_i id row st n cap
      simp only [RepL] at hargs
      obtain ⟨v, us, h1, h2, rfl⟩ := hargs
      simp only [Rep] at h2
      obtain ⟨hlen, _, b, h3, rfl⟩ := h2
      cases hb : isSliceO P argTypes[0]? with
      | false => simp only [cond_false, AOk]
      | true =>
        obtain ⟨t, e, ht, hu⟩ := isSliceO_spec hb
        simp only [cond_true, AOk]
        refine ⟨_, ?_, rep_int ⟨by simp only [minK]; omega, hlen⟩⟩
        have h0 : (args.map a.eval)[0]? = some (.slice (some ⟨b, row * st, none⟩) n cap) := by
          have := congrArg (fun l => l[0]?) h1
          simpa using this
        simp only [execOp, hop, resolve, invoke, builtin, Builtin.len_, ht, h0, Sem.run_bind, Sem.run_pure, Result.andThen_ok, run_underlying hu, goInt]
    · rename_i id row st n cap id' row' st' m cap'
      simp only [RepL] at hargs
      obtain ⟨v, us, h1, h2, v', us', h1', h2', rfl⟩ := hargs
      subst h1'
      unfold appA
      split
      · rename_i t u ht hu
        split
        · rename_i e e' hte hue
          split
          · rename_i sz hs
            cases hb : (Nat.beq st sz && (Nat.beq st' sz && (Nat.ble 1 sz && Nat.ble (n + m) cap))) with
            | false => simp only [cond_false, AOk]
            | true =>
              simp only [Bool.and_eq_true, Nat.beq_eq, Nat.ble_eq] at hb
              obtain ⟨rfl, rfl, hs1, hcap⟩ := hb
              simp only [Rep] at h2 h2'
              obtain ⟨hn, hcp, b, hb1, hb2⟩ := h2
              obtain ⟨hm, _, b', hb1', hb2'⟩ := h2'
              simp only [cond_true, AOk]
              have hnm : (n : Int) + m ≤ maxK .i64 := by omega
              refine ⟨trivial, hnm, hcp, fun b0 b0' ty ty' vs vs' e1 e2 k1 k2 k3 k4 k5 => ?_⟩
              rw [hb1] at e1; cases e1
              rw [hb1'] at e2; cases e2
              have h0 : (args.map a.eval)[0]? = some (.slice (some ⟨b, row * st', none⟩) n cap) := by
                have := congrArg (fun l => l[0]?) h1
                rw [hb2] at this; simpa using this
              have h0' : (args.map a.eval)[1]? = some (.slice (some ⟨b', row' * st', none⟩) m cap') := by
                have := congrArg (fun l => l[1]?) h1
                rw [hb2'] at this; simpa using this
              have hld := run_loads (P := P) (w := w) (b := b') (off := row' * st') (n := m * st') k2 (by rw [← Nat.add_mul]; exact k3)
              have hlen : ((vs'.drop (row' * st')).take (m * st')).length = m * st' := by simp; rw [Nat.add_mul] at k3; omega
              have hst := run_stores (P := P) b (row * st' + n * st') ty ((vs'.drop (row' * st')).take (m * st')) 0 vs w k1 (by rw [hlen]; rw [Nat.add_mul, Nat.add_mul] at k4; omega) k5
              simp only [execOp, hop, resolve, invoke, builtin, Builtin.append_, ht, hu, h0, h0', Sem.run_bind, Sem.run_pure, Result.andThen_ok, run_underlying hte, run_underlying hue, run_size hs, Builtin.lenOf, Bool.false_eq_true, if_false, Bool.not_false, if_true, if_pos hcap, Builtin.firstCells, hld, Addr.add_lit, Nat.add_mul]
              simp only [Nat.add_zero] at hst
              rw [hst]
              rfl
          · simp only [AOk]
        · simp only [AOk]
      · simp only [AOk]
    · rename_i k x l
      simp only [RepL] at hargs
      obtain ⟨v, us, h1, h2, h3⟩ := hargs
      simp only [Rep] at h2
      obtain ⟨rfl, hin⟩ := h2
      refine aok_opt fun y hy => ?_
      obtain ⟨r, hr1, hr2⟩ := max_run (w := w) (P := P) l us k x y hin h3 hy
      refine ⟨r, ?_, hr2⟩
      simp only [execOp, hop, resolve, invoke, builtin, Builtin.max_, h1, Sem.run_bind, Sem.run_pure, Result.andThen_ok, hr1]
    · rename_i k x l
      simp only [RepL] at hargs
      obtain ⟨v, us, h1, h2, h3⟩ := hargs
      simp only [Rep] at h2
      obtain ⟨rfl, hin⟩ := h2
      refine aok_opt fun y hy => ?_
      obtain ⟨r, hr1, hr2⟩ := min_run (w := w) (P := P) l us k x y hin h3 hy
      refine ⟨r, ?_, hr2⟩
      simp only [execOp, hop, resolve, invoke, builtin, Builtin.min_, h1, Sem.run_bind, Sem.run_pure, Result.andThen_ok, hr1]
    · simp only [AOk]

theorem eff_ok (hρ : ∀ x, Rep σ (s.eval x) (a.eval x)) (o : Oper) : AOk P σ w ((execOp a.eval o).run P w) (eff P o.op s.eval) := by
  cases hop : o.op with
  | move x => simp only [eff, AOk]; exact ⟨_, by simp [execOp, hop], hρ x⟩
  | assign x => simp only [eff, AOk]; exact ⟨_, by simp [execOp, hop], hρ x⟩
  | pick c x y =>
    have hc := hρ c
    simp only [eff]
    split
    · rename_i b h1
      rw [h1] at hc; simp only [Rep] at hc
      cases b with
      | true =>
        simp only [cond_true, AOk]
        exact ⟨_, by simp [execOp, hop, hc, asBool], hρ x⟩
      | false =>
        simp only [cond_false, AOk]
        exact ⟨_, by simp [execOp, hop, hc, asBool], hρ y⟩
    · simp only [AOk]
  | alloc t => exact eff_alloc o t hop
  | box t x => exact eff_box hρ o t x hop
  | build t parts => exact eff_build hρ o t parts hop
  | buildSlice t len parts => exact eff_buildSlice hρ o t len parts hop
  | load t x => exact eff_load hρ o t x hop
  | store t x y => exact eff_store hρ o t x y hop
  | nilCheck x =>
    have hx := hρ x
    simp only [eff]
    split
    · rename_i id row st col h
      rw [h] at hx
      have hx' := hx
      simp only [Rep] at hx'
      obtain ⟨b, h1, h2⟩ := hx'
      simp only [AOk]
      exact ⟨.pointer (some ⟨b, row * st + col, none⟩), by simp [execOp, hop, h2], by simp only [Rep]; exact ⟨b, h1, rfl⟩⟩
    · rename_i f p q h
      rw [h] at hx
      have hx' := hx
      simp only [Rep] at hx'
      obtain ⟨u, v, h1, h2, h3⟩ := hx'
      simp only [AOk]
      exact ⟨.func (.func f) u.toArray v.toArray, by simp [execOp, hop, h3], by simp only [Rep]; exact ⟨u, v, h1, h2, rfl⟩⟩
    · simp only [AOk]
  | binOp op t x y ty => simp only [eff]; exact aok_bin op t x y ty o hop (hρ x) (hρ y)
  | unOp op t x => exact eff_un hρ o op t x hop
  | convert src dst x => exact eff_conv hρ o src dst x hop
  | makeFunc fn first captured =>
    simp only [eff, AOk]
    refine ⟨.func fn (first.map a.eval) (captured.map a.eval), by simp [execOp, hop, Instr.makeFunc], ?_⟩
    simp only [Rep]
    refine ⟨first.toList.map a.eval, captured.toList.map a.eval, repL_ops hρ _, repL_ops hρ _, ?_⟩
    congr 1 <;> (apply Array.ext'; simp)
  | fieldAddr t x i => exact eff_fieldAddr hρ o t x i hop
  | field t x i => exact eff_field hρ o t x i hop
  | indexAddr t x i => exact eff_indexAddr hρ o t x i hop
  | index t x i => exact eff_index hρ o t x i hop
  | makeSlice t l c =>
    have hl := hρ l
    have hc := hρ c
    simp only [eff]
    split
    · rename_i k1 l' k2 c' e h1 h2 hu
      rw [h1] at hl; rw [h2] at hc; simp only [Rep] at hl hc
      obtain ⟨hl, hl'⟩ := hl
      obtain ⟨hc, hc'⟩ := hc
      split
      · rename_i sz z by' hs hz hby
        cases hb : (Nat.ble 1 sz && Nat.beq (lenA z) sz) with
        | false => simp only [cond_false, AOk]
        | true =>
          simp only [Bool.and_eq_true, Nat.ble_eq, Nat.beq_eq, lenA_eq] at hb
          simp only [cond_true, AOk]
          intro ht
          have ht' := of_decide_eq_true ht
          obtain ⟨t1, t2, t3, t4⟩ := ht'
          obtain ⟨v, hv1, hv2⟩ := run_zero (σ := σ) hz w
          have hvl : v.cells.size = sz := by have := hv2.length; simp at this; omega
          unfold bytesT at hby
          cases hie : P.info? e with
          | none => simp [hie] at hby
          | some ie =>
            simp [hie] at hby
            subst hby
            have hsz : ie.size = sz := by unfold sizeT at hs; simp [hie] at hs; exact hs
            have w1 : IntKind.i64.wrap l' = l' := by unfold IntKind.wrap; simp [IntKind.bits, IntKind.signed]; split <;> omega
            have w2 : IntKind.i64.wrap c' = c' := by unfold IntKind.wrap; simp [IntKind.bits, IntKind.signed]; split <;> omega
            have hrep := zeros_rep (σ := σ) (n := c'.toNat * sz) hv2 hb.1 hb.2
            refine ⟨_, .slice (some ⟨w.heap.size, 0, none⟩) l'.toNat c'.toNat, hrep, ?_, fun τ i _ hi => ?_⟩
            · have ht1 : ¬ (c' < 0 ∨ (ie.bytes : Int) * c' > 2 ^ 48) := by omega
              have hcells : (Array.range (c'.toNat * sz)).map (v.cells[· % v.cells.size]!) = ((List.range (c'.toNat * sz)).map (v.cells[· % v.cells.size]!)).toArray := by
                apply Array.ext'; simp
              have hz0 : c'.toNat * sz = 0 → (Array.range (c'.toNat * sz)).map ((#[] : Array Value)[· % (#[] : Array Value).size]!) = (Array.range (c'.toNat * sz)).map (v.cells[· % v.cells.size]!) := by
                intro e; rw [e]; simp
              have hti : (typeInfo e).run P w = .ok ie w := by simp [typeInfo, hie]
              have c1 : (decide (c' < 0) || decide ((ie.bytes : Int) * c' > 2 ^ 48) || decide (l' < 0) || decide (l' > c')) = false := by simp; omega
              simp only [execOp, hop, hl, hc, Instr.makeSlice, asInt, asIntOf, Sem.run_bind, Sem.run_pure, Result.andThen_ok, run_underlying hu, hti, w1, w2, c1, Bool.false_eq_true, if_false, run_askRoom, run_size hs]
              by_cases h0 : c'.toNat * sz = 0
              · simp only [if_pos h0, Sem.run_pure, Result.andThen_ok, newRow, Sem.run_bind, run_newObj, hz0 h0, hcells]
                rfl
              · simp only [if_neg h0, Sem.run_bind, hv1, Sem.run_pure, Result.andThen_ok, newRow, run_newObj, hcells]
                rfl
            · simp only [Rep]
              exact ⟨by simp only [maxK]; omega, by simp only [maxK]; omega, _, hi, by simp⟩
      · simp only [AOk]
    · simp only [AOk]
  | extract x i =>
    have hx := hρ x
    simp only [eff]
    split
    · rename_i vs h
      rw [h] at hx; simp only [Rep] at hx
      obtain ⟨us, h1, h2⟩ := hx
      refine aok_opt fun y hy => ?_
      rw [nth_eq] at hy
      obtain ⟨v, hv1, hv2⟩ := h1.get hy
      refine ⟨v, ?_, hv2⟩
      simp [execOp, hop, h2, Instr.extract, hv1]
    · simp only [AOk]
  | call c => exact eff_call hρ o c hop
  | _ => simp only [eff, AOk]
end
end Ev
end Go.Proofs.Ytialgmhhkbdegaa
/- That the symbolic evaluator of the text Ea is sound, third part: operations in order, code, functions. -/
namespace Go.Proofs.Ytialgmhhkbdegaa
open Go.RowKit
namespace Ev

structure HRel (B : Nat) (σ : Nat → Option Nat) (hp : Heap) (nx : Nat) (w : World) : Prop where
  cell : ∀ id b, hp id = some b → ∃ n vs, σ id = some n ∧ w.heap[n]? = some (.cells (List.toArray vs) b.ty (0, 0)) ∧ RepL σ b.cs vs ∧ (b.own = true → B ≤ n)
  inj : ∀ i j n, σ i = some n → σ j = some n → i = j
  fresh : ∀ i, nx ≤ i → σ i = none
  bound : ∀ i n, σ i = some n → n < w.heap.size

structure Sat (w0 : World) (σ : Nat → Option Nat) (s : St) (a : Go.Act) (w : World) : Prop where
  h : HRel w0.heap.size σ s.hp s.nx w
  tm : ∀ t, Rep σ (s.tm t) (a.tmps.getD t undef)
  n : a.tmps.size = s.n
  df : a.defers = []
  bl : Below w0.heap.size w0 w

theorem HRel.below {B : Nat} {σ : Nat → Option Nat} {hp : Heap} {nx : Nat} {w w' : World} (h : HRel B σ hp nx w) (hb : Below w.heap.size w w') : HRel B σ hp nx w' := by
  refine ⟨fun id b hi => ?_, h.inj, h.fresh, fun i n hn => Nat.lt_of_lt_of_le (h.bound i n hn) hb.size⟩
  obtain ⟨n, vs, h1, h2, h3, h4⟩ := h.cell id b hi
  exact ⟨n, vs, h1, (hb.block n (h.bound id n h1)).trans h2, h3, h4⟩

theorem beq_ne {i j : Nat} (h : i ≠ j) : Nat.beq i j = false := by
  cases hb : Nat.beq i j with
  | false => rfl
  | true => exact absurd (Nat.eq_of_beq_eq_true hb) h
theorem upd_same {β : Type} (f : Nat → β) (i : Nat) (x : β) : upd f i x i = x := by simp [upd]
theorem upd_other {β : Type} (f : Nat → β) {i j : Nat} (x : β) (h : j ≠ i) : upd f i x j = f j := by
  simp [upd, beq_ne h]

theorem Sat.eval {w0 : World} {σ : Nat → Option Nat} {s : St} {a : Go.Act} {w : World} (h : Sat w0 σ s a w) (x : Operand) : Rep σ (s.eval x) (a.eval x) := by
  cases x with
  | tmp t => exact h.tm t
  | const v => exact rep_ofV σ v
  | global g => simp [St.eval, Go.Act.eval, Rep]
  | func f => simp [St.eval, Go.Act.eval, Rep, RepL]

theorem tm_put {σ : Nat → Option Nat} {tm : Nat → AV} {tmps : Array Value} {x : AV} {v : Value} (h : ∀ t, Rep σ (tm t) (tmps.getD t undef)) (d : Nat) (hd : d < tmps.size) (hx : Rep σ x v) (t : Nat) : Rep σ (upd tm d x t) ((tmps.setIfInBounds d v).getD t undef) := by
  by_cases htd : t = d
  · subst htd
    rw [upd_same]
    simp [Array.getD, hd]
    exact hx
  · rw [upd_other _ _ htd]
    have := h t
    simp only [Array.getD_eq_getD_getElem?, Array.getElem?_setIfInBounds] at this ⊢
    simp only [if_neg (Ne.symm htd)]
    exact this

theorem Sat.put {w0 : World} {σ : Nat → Option Nat} {s : St} {a : Go.Act} {w : World} (h : Sat w0 σ s a w) {o : Option Nat} (hd : o.getD 0 < s.n) {x : AV} {v : Value} (hx : Rep σ x v) : Sat w0 σ (s.put o x) (a.put o v) w := by
  cases o with
  | none => exact h
  | some d =>
    refine ⟨h.h, ?_, ?_, h.df, h.bl⟩
    · exact tm_put h.tm d (by rw [h.n]; simpa using hd) hx
    · simp [Go.Act.put, St.put, h.n]

theorem Sat.mono {w0 : World} {σ τ : Nat → Option Nat} {s : St} {a : Go.Act} {w w' : World} {hp : Heap} {nx : Nat} (h : Sat w0 σ s a w) (e : Ext σ τ) (hh : HRel w0.heap.size τ hp nx w') (hb : Below w0.heap.size w0 w') : Sat w0 τ { s with hp := hp, nx := nx } a w' :=
  ⟨hh, fun t => (h.tm t).mono e, h.n, h.df, hb⟩

/-- a new block -/
theorem HRel.alloc {B : Nat} {σ : Nat → Option Nat} {hp : Heap} {nx : Nat} {w : World} (h : HRel B σ hp nx w) (hB : B ≤ w.heap.size) {b : Blk} {us : List Value} (hu : RepL σ b.cs us) :
    ∃ τ, Ext σ τ ∧ τ nx = some w.heap.size ∧ HRel B τ (upd hp nx (some b)) (nx + 1) (w.alloc (.cells us.toArray b.ty)) := by
  have hn : σ nx = none := h.fresh nx (Nat.le_refl _)
  have he : Ext σ (upd σ nx (some w.heap.size)) := fun i n hi => by
    rw [upd_other _ _ (fun e => by rw [e, hn] at hi; simp at hi)]; exact hi
  refine ⟨upd σ nx (some w.heap.size), he, upd_same _ _ _, ?_, ?_, ?_, ?_⟩
  · intro id c hc
    by_cases hid : id = nx
    · subst hid
      rw [upd_same] at hc; cases hc
      refine ⟨w.heap.size, us, upd_same _ _ _, ?_, RepL.mono he _ _ hu, fun _ => hB⟩
      show (w.heap.push _)[w.heap.size]? = _
      simp
    · rw [upd_other _ _ hid] at hc
      obtain ⟨n, vs, h1, h2, h3, h4⟩ := h.cell id c hc
      refine ⟨n, vs, by rw [upd_other _ _ hid]; exact h1, ?_, RepL.mono he _ _ h3, h4⟩
      rw [Below.heap_alloc _ _ _ (h.bound id n h1)]; exact h2
  · intro i j n hi hj
    by_cases h1 : i = nx
    · by_cases h2 : j = nx
      · rw [h1, h2]
      · subst h1
        rw [upd_same] at hi; rw [upd_other _ _ h2] at hj
        cases hi
        exact absurd (h.bound j _ hj) (Nat.lt_irrefl _)
    · by_cases h2 : j = nx
      · subst h2
        rw [upd_same] at hj; rw [upd_other _ _ h1] at hi
        cases hj
        exact absurd (h.bound i _ hi) (Nat.lt_irrefl _)
      · rw [upd_other _ _ h1] at hi; rw [upd_other _ _ h2] at hj; exact h.inj i j n hi hj
  · intro i hi
    rw [upd_other _ _ (by omega)]; exact h.fresh i (by omega)
  · intro i n hi
    have hs : (w.alloc (.cells us.toArray b.ty)).heap.size = w.heap.size + 1 := by simp
    by_cases h1 : i = nx
    · subst h1; rw [upd_same] at hi; cases hi; omega
    · rw [upd_other _ _ h1] at hi; have := h.bound i n hi; omega

/-- a store into a block -/
theorem HRel.store {B : Nat} {σ : Nat → Option Nat} {hp : Heap} {nx : Nat} {w : World} (h : HRel B σ hp nx w) {id n : Nat} {b : Blk} (hid : hp id = some b) (hn : σ id = some n) {cs : List AV} {us : List Value} (hu : RepL σ cs us) (ho : b.own = true) :
    HRel B σ (upd hp id (some ⟨b.ty, cs, true⟩)) nx (w.setRow n us.toArray) := by
  obtain ⟨m, vs, h1, h2, h3, h4⟩ := h.cell id b hid
  rw [hn] at h1; cases h1
  refine ⟨?_, h.inj, h.fresh, fun i k hi => by rw [setRow_size]; exact h.bound i k hi⟩
  intro j c hc
  by_cases hj : j = id
  · subst hj
    rw [upd_same] at hc; cases hc
    exact ⟨n, us, hn, setRow_heap w n _ _ _ _ h2, hu, fun _ => h4 ho⟩
  · rw [upd_other _ _ hj] at hc
    obtain ⟨k, vs', k1, k2, k3, k4⟩ := h.cell j c hc
    refine ⟨k, vs', k1, ?_, k3, k4⟩
    rw [setRow_other w n k _ (fun e => hj (h.inj j id k k1 (e ▸ hn)))]
    exact k2

theorem below_setRow {B : Nat} {w0 w : World} (h : Below B w0 w) {n : Nat} (hn : B ≤ n) (cs : Array Value) : Below B w0 (w.setRow n cs) :=
  h.trans ⟨rfl, rfl, rfl, by rw [setRow_size]; exact Nat.le_refl _, fun k hk => setRow_other w n k cs (by omega)⟩

/-- what a handler of calls owes -/
def CTok (P : Program) {α : Type} (cT : CallT α) (R : α → Prop) : Prop :=
  ∀ (w0 : World) (σ : Nat → Option Nat) (hp : Heap) (nx : Nat) (w : World) (f : FuncId) (xs : List AV) (us : List Value) (K : AV → Heap → Nat → Tree α),
    HRel w0.heap.size σ hp nx w → Below w0.heap.size w0 w → RepL σ xs us → (cT f xs hp nx K).sat R →
    (callFunc f us.toArray).run P w = .ok (.enter f us.toArray) w ∧
    Calls P f us.toArray w fun e w' => ∃ v x τ hp' nx', e = .returned v ∧ Ext σ τ ∧ HRel w0.heap.size τ hp' nx' w' ∧ Below w0.heap.size w0 w' ∧ Rep τ x v ∧ (K x hp' nx').sat R

section
variable {P : Program} {α : Type} {cT : CallT α} {R : α → Prop}

theorem evEff_sound (hc : CTok P cT R) {w0 : World} {σ : Nat → Option Nat} {s : St} {a : Go.Act} {w : World} {o : Oper} {K : St → Tree α} {next : Go.Act → World → Prop} {Q : Exit → Go.Act → World → Prop} {r : Result Next}
    (hS : Sat w0 σ s a w) (hd : o.dst.getD 0 < s.n) : ∀ (e : Eff), AOk P σ w r e → (evEff cT o.dst s K e).sat R →
    (∀ τ s' a' w', Ext σ τ → Sat w0 τ s' a' w' → (K s').sat R → next a' w') → o.upon P a next Q r
  | .val x, he, h, hK => by
    simp only [AOk] at he
    obtain ⟨v, rfl, hv⟩ := he
    rw [Oper.upon_value]
    exact hK σ _ _ _ (Ext.refl _) (hS.put hd hv) h
  | .load id row st col n agg, he, h, hK => by
    simp only [AOk] at he
    obtain ⟨hn, he⟩ := he
    simp only [evEff] at h
    cases hb : s.hp id with
    | none => simp [hb, Tree.sat] at h
    | some b =>
      obtain ⟨m, vs, h1, h2, h3, h4⟩ := hS.h.cell id b hb
      simp only [hb] at h
      cases hl : Nat.ble (row * st + col + n) (lenA b.cs) with
      | false => simp [hl, Tree.sat] at h
      | true =>
        simp only [hl, cond_true, takeA_eq, dropA_eq, nth_eq] at h
        simp only [Nat.ble_eq, lenA_eq] at hl
        rw [he m b.ty vs h1 h2 (by rw [← h3.length]; exact hl), Oper.upon_value]
        cases agg with
        | true =>
          simp only [cond_true] at h
          refine hK σ _ _ _ (Ext.refl _) (hS.put hd ?_) h
          simp only [if_true, Rep]
          exact ⟨_, (h3.drop _).take _, rfl⟩
        | false =>
          simp only [cond_false] at h
          have hn1 := hn rfl
          subst hn1
          have hlt : row * st + col < b.cs.length := by omega
          rw [List.getElem?_eq_getElem hlt] at h
          obtain ⟨v, hv, hr⟩ := h3.get (List.getElem?_eq_getElem hlt)
          refine hK σ _ _ _ (Ext.refl _) (hS.put hd ?_) h
          simp only [Bool.false_eq_true, if_false, List.getD, hv, Option.getD_some]
          exact hr
  | .store id row st col xs, he, h, hK => by
    simp only [AOk] at he
    obtain ⟨us, hu, he⟩ := he
    simp only [evEff] at h
    cases hb : s.hp id with
    | none => simp [hb, Tree.sat] at h
    | some b =>
      obtain ⟨m, vs, h1, h2, h3, h4⟩ := hS.h.cell id b hb
      simp only [hb] at h
      cases hl : (b.own && Nat.ble (row * st + col + lenA xs) (lenA b.cs)) with
      | false => simp [hl, Tree.sat] at h
      | true =>
        simp only [hl, cond_true] at h
        simp only [Bool.and_eq_true, Nat.ble_eq, lenA_eq] at hl
        rw [he m b.ty vs h1 h2 (by rw [← h3.length, ← hu.length]; exact hl.2), Oper.upon_skip]
        have hh := hS.h.store hb h1 (setsA_rep _ _ (row * st + col) _ _ h3 hu) hl.1
        have hS' : Sat w0 σ { s with hp := upd s.hp id (some ⟨b.ty, setsA b.cs (row * st + col) xs, true⟩) } a (w.setRow m (setsA vs (row * st + col) us).toArray) :=
          hS.mono (Ext.refl _) hh (below_setRow hS.bl (h4 hl.1) _)
        exact hK σ _ _ _ (Ext.refl _) (hS'.put hd (by simp only [Rep])) h
  | .alloc b mk, he, h, hK => by
    simp only [AOk] at he
    obtain ⟨us, v, hu, rfl, hv⟩ := he
    simp only [evEff] at h
    rw [Oper.upon_value]
    obtain ⟨τ, e, hτ, hh⟩ := hS.h.alloc hS.bl.size hu
    have hS' : Sat w0 τ { s with hp := upd s.hp s.nx (some b), nx := s.nx + 1 } a _ := hS.mono e hh (hS.bl.alloc hS.bl.size _)
    exact hK τ _ _ _ e (hS'.put hd (hv τ s.nx e hτ)) h
  | .app id row st n cap id' row' st' m, he, h, hK => by
    simp only [AOk] at he
    obtain ⟨hst, hnm, hcp, he⟩ := he
    simp only [evEff] at h
    cases hb : s.hp id with
    | none => simp [hb, Tree.sat] at h
    | some b =>
      cases hb' : s.hp id' with
      | none => simp [hb, hb', Tree.sat] at h
      | some b' =>
        obtain ⟨g, vs, h1, h2, h3, h4⟩ := hS.h.cell id b hb
        obtain ⟨g', vs', h1', h2', h3', h4'⟩ := hS.h.cell id' b' hb'
        simp only [hb, hb'] at h
        cases hl : (b.own && (Nat.ble ((row' + m) * st') (lenA b'.cs) && (Nat.ble ((row + n + m) * st) (lenA b.cs) && (takeA (m * st') (dropA (row' * st') b'.cs)).all one))) with
        | false => simp [hl, Tree.sat] at h
        | true =>
          simp only [hl, cond_true] at h
          simp only [Bool.and_eq_true, Nat.ble_eq, lenA_eq, takeA_eq, dropA_eq] at hl h
          obtain ⟨l1, l2, l3, l4⟩ := hl
          have hx := (h3'.drop (row' * st')).take (m * st')
          rw [he g g' b.ty b'.ty vs vs' h1 h1' h2 h2' (by rw [← h3'.length]; exact l2) (by rw [← h3.length]; exact l3) (all_one hx l4), Oper.upon_value]
          have hh := hS.h.store hb h1 (setsA_rep _ _ ((row + n) * st) _ _ h3 hx) l1
          have hS' : Sat w0 σ { s with hp := upd s.hp id (some ⟨b.ty, setsA b.cs ((row + n) * st) ((b'.cs.drop (row' * st')).take (m * st')), true⟩) } a (w.setRow g (setsA vs ((row + n) * st) ((vs'.drop (row' * st')).take (m * st'))).toArray) :=
            hS.mono (Ext.refl _) hh (below_setRow hS.bl (h4 l1) _)
          exact hK σ _ _ _ (Ext.refl _) (hS'.put hd (by simp only [Rep]; exact ⟨by omega, hcp, g, h1, rfl⟩)) h
  | .call f xs, he, h, hK => by
    simp only [AOk] at he
    obtain ⟨us, hu, rfl⟩ := he
    simp only [evEff] at h
    obtain ⟨h1, h2⟩ := hc w0 σ s.hp s.nx w f xs us _ hS.h hS.bl hu h
    rw [h1, Oper.upon_enter]
    refine h2.mono ?_
    rintro e w' ⟨v, x, τ, hp', nx', rfl, h3, h4, h5, h6, h7⟩
    have hS' : Sat w0 τ { s with hp := hp', nx := nx' } a w' := hS.mono h3 h4 h5
    exact hK τ _ _ _ h3 (hS'.put hd h6) h7
  | .test c e, he, h, hK => by
    simp only [AOk] at he
    simp only [evEff] at h
    cases c with
    | false => simp [Tree.sat] at h
    | true => exact evEff_sound hc hS hd e (he rfl) (by simpa using h) hK
  | .bad, _, h, _ => by simp [evEff, Tree.sat] at h

theorem Sat.learn {w0 : World} {σ : Nat → Option Nat} {s : St} {a : Go.Act} {w : World} (h : Sat w0 σ s a w) {d : Nat} {x : AV} (hx : Rep σ x (a.tmps.getD d undef)) : Sat w0 σ (s.put (some d) x) a w := by
  refine ⟨h.h, fun t => ?_, h.n, h.df, h.bl⟩
  by_cases ht : t = d
  · subst ht
    show Rep σ (upd s.tm t x t) _
    rw [upd_same]; exact hx
  · show Rep σ (upd s.tm d x t) _
    rw [upd_other _ _ ht]; exact h.tm t

theorem yielded_of {ops : Array Oper} {a : Go.Act} {j d : Nat} (hd : (ops[j]?).bind (·.dst) = some d) (hlt : d < a.tmps.size) : yielded ops a.tmps j = match a.tmps.getD d undef with | .bool b => some b | _ => none := by
  have : a.tmps[d]? = some (a.tmps.getD d undef) := by simp [Array.getD, hlt]
  unfold yielded
  rw [hd]
  simp only [Option.bind_some, this]
  cases a.tmps.getD d undef <;> rfl

theorem evOps_step (hc : CTok P cT R) {w0 : World} {ops : Array Oper} {K : St → Tree α} {Q : Exit → Go.Act → World → Prop} {next : Go.Act → World → Prop} {i : Nat} {rest : List Nat} {σ : Nat → Option Nat} {s : St} {a : Go.Act} {w : World}
    (hS : Sat w0 σ s a w) (h : (evOps P cT ops (i :: rest) s K).sat R) (IH : ∀ τ s' a' w', Ext σ τ → Sat w0 τ s' a' w' → (evOps P cT ops rest s' K).sat R → next a' w') : wpOp P ops Q i next a w := by
    unfold wpOp
    simp only [evOps] at h
    cases ho : ops[i]? with
    | none => simp only [ho] at h ⊢; exact IH σ s a w (Ext.refl _) hS h
    | some o =>
      simp only [ho] at h ⊢
      cases hd : Nat.ble s.n (o.dst.getD 0) with
      | true => simp [hd, Tree.sat] at h
      | false =>
        simp only [hd, cond_false] at h
        have hd' : o.dst.getD 0 < s.n := by
          rcases Nat.lt_or_ge (o.dst.getD 0) s.n with x | x
          · exact x
          · have : Nat.ble s.n (o.dst.getD 0) = true := by simpa using x
            rw [this] at hd; simp at hd
        cases hg : o.guard with
        | none =>
          simp only [hg] at h
          rw [if_pos (by simp [Region.wanted, hg])]
          exact .inl (evEff_sound hc hS hd' _ (eff_ok hS.eval o) h IH)
        | some g =>
          obtain ⟨j, want⟩ := g
          simp only [hg] at h
          cases hdst : (ops[j]?).bind (·.dst) with
          | none => simp [hdst, Tree.sat] at h
          | some d =>
            simp only [hdst] at h
            cases hn : Nat.ble s.n d with
            | true => simp [hn, Tree.sat] at h
            | false =>
              simp only [hn, cond_false] at h
              have hlt : d < a.tmps.size := by
                rw [hS.n]
                rcases Nat.lt_or_ge d s.n with x | x
                · exact x
                · have : Nat.ble s.n d = true := by simpa using x
                  rw [this] at hn; simp at hn
              have hy := yielded_of hdst hlt
              have hr := hS.tm d
              cases hx : s.tm d with
              | bool b =>
                rw [hx] at hr h
                simp only [Rep] at hr
                rw [hr] at hy
                simp only at hy h
                have hw : Region.wanted o (yielded ops a.tmps) = (b == want) := by simp [Region.wanted, hg, hy]
                have hL : Sat w0 σ (s.put (some d) (.bool b)) a w := hS.learn (by rw [hr]; simp only [Rep])
                cases b <;> cases want <;> simp only [cond_true, cond_false] at h <;> rw [hw]
                · rw [if_pos (show (false == false) = true from rfl)]
                  exact .inl (evEff_sound hc hL hd' _ (eff_ok hL.eval o) h IH)
                · rw [if_neg (by decide)]
                  exact IH σ _ _ _ (Ext.refl _) (hL.put hd' (by simp only [Rep])) h
                · rw [if_neg (by decide)]
                  exact IH σ _ _ _ (Ext.refl _) (hL.put hd' (by simp only [Rep])) h
                · rw [if_pos (show (true == true) = true from rfl)]
                  exact .inl (evEff_sound hc hL hd' _ (eff_ok hL.eval o) h IH)
              | val v =>
                rw [hx] at hr h
                simp only [Rep] at hr
                cases v with
                | tuple vs =>
                  rw [hr] at hy
                  simp only at hy h
                  rw [if_neg (by simp [Region.wanted, hg, hy])]
                  exact IH σ _ _ _ (Ext.refl _) (hS.put hd' (by simp only [Rep])) h
                | _ => simp [Tree.sat] at h
              | _ => rw [hx] at h; simp [Tree.sat] at h
theorem evOps_sound (hc : CTok P cT R) {w0 : World} {ops : Array Oper} {K : St → Tree α} {Q : Exit → Go.Act → World → Prop} : ∀ (l : List Nat) (σ : Nat → Option Nat) (s : St) (a : Go.Act) (w : World),
    Sat w0 σ s a w → (evOps P cT ops l s K).sat R → (∀ τ s' a' w', Ext σ τ → Sat w0 τ s' a' w' → (K s').sat R → Q .normal a' w') → wpOps P ops Q l a w
  | [], σ, s, a, w, hS, h, hK => hK σ s a w (Ext.refl _) hS h
  | i :: rest, σ, s, a, w, hS, h, hK => by
    rw [wpOps_cons]
    exact evOps_step hc hS h fun τ s' a' w' e hS' h' => evOps_sound hc rest τ s' a' w' hS' h' (fun τ' s2 a2 w2 e2 => hK τ' s2 a2 w2 (e.trans e2))

end
end Ev
end Go.Proofs.Ytialgmhhkbdegaa
/- That the symbolic evaluator of the text Ea is sound: a region whose order is open. -/
namespace Go.Proofs.Ytialgmhhkbdegaa
open Go.RowKit
namespace Ev

/-- the function is one with a body, and no name that the machine treats by itself -/
def Plain (P : Program) (f : FuncId) : Prop := ∃ fn, P.funcs[f]? = some fn ∧ (fn.name == "runtime.NumGoroutine") = false ∧ fn.body.isSome = true
theorem Plain.run {P : Program} {f : FuncId} (h : Plain P f) (us : Array Value) (w : World) : (callFunc f us).run P w = .ok (.enter f us) w := by
  obtain ⟨fn, h1, h2, h3⟩ := h
  have h4 : fn.body.isNone = false := by cases hb : fn.body <;> simp [hb] at h3 ⊢
  simp only [callFunc, Sem.run_bind, run_program, Result.andThen_ok, h1, h2, h4, Bool.false_eq_true, if_false, Sem.run_pure]

theorem assoc_mem {β : Type} : ∀ {l : List (Nat × β)} {i : Nat} {x : β}, assoc l i = some x → (i, x) ∈ l
  | [], _, _, h => by simp [assoc] at h
  | (k, y) :: l, i, x, h => by
    simp only [assoc] at h
    by_cases hk : k = i
    · subst hk
      simp at h; subst h; simp
    · simp only [beq_ne hk, cond_false] at h
      exact List.mem_cons_of_mem _ (assoc_mem h)

/-- what is owed for the summary of a function that leaves memory alone -/
def PureOk (P : Program) (f : FuncId) (g : PureT) : Prop :=
  ∀ (σ : Nat → Option Nat) (w : World) (xs : List AV) (us : List Value) (x : AV), RepL σ xs us → g xs = some (true, x) →
    Calls P f us.toArray w fun e w' => ∃ v, e = .returned v ∧ Rep σ x v ∧ Below w.heap.size w w'

theorem setsA_get {β : Type} : ∀ (vs : List β) (lo : Nat) (cs : List β) (c : Nat), (setsA cs lo vs)[c]? = if lo ≤ c ∧ c < lo + vs.length ∧ c < cs.length then vs[c - lo]? else cs[c]?
  | [], lo, cs, c => by
    simp only [setsA, List.length_nil]
    rw [if_neg (by omega)]
  | v :: vs, lo, cs, c => by
    simp only [setsA, setA_eq]
    rw [setsA_get vs (lo + 1) (cs.set lo v) c]
    simp only [List.length_set, List.length_cons]
    by_cases h1 : lo + 1 ≤ c ∧ c < lo + 1 + vs.length ∧ c < cs.length
    · rw [if_pos h1, if_pos (by omega)]
      have : c - lo = (c - (lo + 1)) + 1 := by omega
      rw [this, List.getElem?_cons_succ]
    · rw [if_neg h1, List.getElem?_set]
      by_cases h2 : lo = c
      · subst h2
        rw [if_pos rfl]
        by_cases h3 : lo < cs.length
        · rw [if_pos h3, if_pos (by omega)]; simp
        · rw [if_neg h3, if_neg (by omega), List.getElem?_eq_none (by omega)]
      · rw [if_neg h2, if_neg (by omega)]
theorem setsA_comm {β : Type} (cs : List β) {lo lo' : Nat} {vs vs' : List β} (h : lo + vs.length ≤ lo' ∨ lo' + vs'.length ≤ lo) : setsA (setsA cs lo vs) lo' vs' = setsA (setsA cs lo' vs') lo vs := by
  apply List.ext_getElem?
  intro c
  rw [setsA_get, setsA_get, setsA_get, setsA_get, setsA_length, setsA_length]
  by_cases h1 : lo ≤ c ∧ c < lo + vs.length ∧ c < cs.length
  · by_cases h2 : lo' ≤ c ∧ c < lo' + vs'.length ∧ c < cs.length
    · omega
    · rw [if_neg h2, if_pos h1, if_pos h1]
  · by_cases h2 : lo' ≤ c ∧ c < lo' + vs'.length ∧ c < cs.length
    · rw [if_pos h2, if_neg h1, if_pos h2]
    · rw [if_neg h2, if_neg h1, if_neg h1, if_neg h2]

def appD (nx : Nat) (D : Nat → Bool) : Nat → List It → St → St
  | _, [], s => s
  | k, it :: l, s => appD nx D (k + 1) l (bif D k then it.app (nx + k) s else s)

theorem app_n (id0 : Nat) (it : It) (s : St) : (it.app id0 s).n = s.n := by
  unfold It.app St.put; split <;> rfl
theorem app_nx (id0 : Nat) (it : It) (s : St) : (it.app id0 s).nx = s.nx := by
  unfold It.app St.put; split <;> rfl
theorem app_hp (id0 : Nat) (it : It) (s : St) : (it.app id0 s).hp = it.mem.app id0 s.hp := by
  unfold It.app St.put; split <;> rfl
theorem app_tm (id0 : Nat) (it : It) (s : St) (t : Nat) : (it.app id0 s).tm t = if it.dst = some t then it.res else s.tm t := by
  unfold It.app St.put
  cases h : it.dst with
  | none => simp
  | some d =>
    simp only
    by_cases hd : t = d
    · subst hd; rw [upd_same]; simp
    · rw [upd_other _ _ hd, if_neg (by simp; exact fun e => hd e.symm)]

section
variable {nx : Nat}
theorem appD_n (D : Nat → Bool) : ∀ (l : List It) (k : Nat) (s : St), (appD nx D k l s).n = s.n
  | [], _, _ => rfl
  | it :: l, k, s => by
    simp only [appD]; rw [appD_n D l]; cases D k
    · rfl
    · exact app_n _ _ _
theorem appD_nx (D : Nat → Bool) : ∀ (l : List It) (k : Nat) (s : St), (appD nx D k l s).nx = s.nx
  | [], _, _ => rfl
  | it :: l, k, s => by
    simp only [appD]; rw [appD_nx D l]; cases D k
    · rfl
    · exact app_nx _ _ _

theorem appD_tm {D E : Nat → Bool} {t : Nat} : ∀ (l : List It) (k : Nat) (s s' : St), s.tm t = s'.tm t → (∀ m it, l[m]? = some it → it.dst = some t → D (k + m) = E (k + m)) → (appD nx D k l s).tm t = (appD nx E k l s').tm t
  | [], _, _, _, h, _ => h
  | it :: l, k, s, s', h, hd => by
    simp only [appD]
    refine appD_tm l (k + 1) _ _ ?_ (fun m it' hm hi => by have := hd (m + 1) it' (by simpa using hm) hi; rwa [show k + (m + 1) = k + 1 + m by omega] at this)
    by_cases hi : it.dst = some t
    · have h0 : D k = E k := hd 0 it rfl hi
      rw [h0]
      cases E k
      · exact h
      · simp only [cond_true]; rw [app_tm, app_tm, if_pos hi, if_pos hi]
    · cases D k <;> cases E k <;> simp only [cond_true, cond_false, app_tm, if_neg hi] <;> exact h
theorem appD_tm_some {D : Nat → Bool} {t : Nat} : ∀ (l : List It) (k : Nat) (s : St) (m : Nat) (it : It), l[m]? = some it → it.dst = some t → D (k + m) = true → (∀ m' it', m' ≠ m → l[m']? = some it' → it'.dst ≠ some t) → (appD nx D k l s).tm t = it.res
  | [], _, _, m, it, h, _, _, _ => by simp at h
  | i0 :: l, k, s, 0, it, h, hd, hD, hu => by
    simp at h; subst h
    have hD' : D k = true := hD
    simp only [appD, hD', cond_true]
    rw [appD_tm (E := fun _ => false) l (k + 1) _ ((i0.app (nx + k) s)) rfl (fun m it' hm hi => absurd hi (hu (m + 1) it' (by omega) (by simpa using hm)))]
    have : ∀ (l : List It) (k : Nat) (s : St), appD nx (fun _ => false) k l s = s := by
      intro l; induction l with
      | nil => intros; rfl
      | cons a l ih => intro k s; simp only [appD, cond_false]; exact ih _ _
    rw [this, app_tm, if_pos hd]
  | i0 :: l, k, s, m + 1, it, h, hd, hD, hu => by
    simp only [appD]
    exact appD_tm_some l (k + 1) _ m it (by simpa using h) hd (by rwa [show k + (m + 1) = k + 1 + m by omega] at hD) (fun m' it' hm' hi => hu (m' + 1) it' (by omega) (by simpa using hi))

/-- what a block's cell is, and its block's form -/
def info (hp : Heap) (id c : Nat) : Option (TypeId × Bool × Nat × Option AV) := (hp id).map fun b => (b.ty, b.own, b.cs.length, b.cs[c]?)
def writes (m : Mem) (id0 id c : Nat) : Prop :=
  match m with
  | .st id' lo vs => id' = id ∧ lo ≤ c ∧ c < lo + vs.length
  | .al _ => id0 = id
  | _ => False
theorem info_same {m : Mem} {id0 id c : Nat} (h : ¬ writes m id0 id c) (hp : Heap) : info (m.app id0 hp) id c = info hp id c := by
  cases m with
  | st id' lo vs =>
    simp only [Mem.app, info]
    by_cases hid : id = id'
    · subst hid
      rw [upd_same]
      cases hb : hp id with
      | none => rfl
      | some b =>
        simp only [Option.map_some, setsA_length, setsA_get]
        rw [if_neg (fun hh => h ⟨rfl, hh.1, hh.2.1⟩)]
    · rw [upd_other _ _ hid]
  | al b =>
    simp only [Mem.app, info]
    rw [upd_other _ _ (fun e => h e.symm)]
  | _ => rfl
theorem info_congr (m : Mem) (id0 : Nat) {id c : Nat} {hp hp' : Heap} (h : info hp id c = info hp' id c) : info (m.app id0 hp) id c = info (m.app id0 hp') id c := by
  cases m with
  | st id' lo vs =>
    simp only [Mem.app, info] at h ⊢
    by_cases hid : id = id'
    · subst hid
      rw [upd_same, upd_same]
      cases hb : hp id with
      | none => cases hb' : hp' id with
        | none => rfl
        | some b' => simp [hb, hb'] at h
      | some b => cases hb' : hp' id with
        | none => simp [hb, hb'] at h
        | some b' =>
          simp only [hb, hb', Option.map_some, Option.some.injEq, Prod.mk.injEq] at h ⊢
          obtain ⟨h1, h2, h3, h4⟩ := h
          refine ⟨h1, h2, by rw [setsA_length, setsA_length, h3], ?_⟩
          rw [setsA_get, setsA_get, h3, h4]
    · rw [upd_other _ _ hid, upd_other _ _ hid]; exact h
  | al b =>
    simp only [Mem.app, info] at h ⊢
    by_cases hid : id = id0
    · subst hid; rw [upd_same, upd_same]
    · rw [upd_other _ _ hid, upd_other _ _ hid]; exact h
  | _ => exact h
theorem appD_info {D E : Nat → Bool} {id c : Nat} : ∀ (l : List It) (k : Nat) (s s' : St), info s.hp id c = info s'.hp id c → (∀ m it, l[m]? = some it → writes it.mem (nx + (k + m)) id c → D (k + m) = E (k + m)) → info (appD nx D k l s).hp id c = info (appD nx E k l s').hp id c
  | [], _, _, _, h, _ => h
  | it :: l, k, s, s', h, hd => by
    simp only [appD]
    refine appD_info l (k + 1) _ _ ?_ (fun m it' hm hi => by
      have := hd (m + 1) it' (by simpa using hm) (by rw [show k + (m + 1) = k + 1 + m by omega]; exact hi)
      rwa [show k + (m + 1) = k + 1 + m by omega] at this)
    by_cases hi : writes it.mem (nx + k) id c
    · have h0 : D k = E k := hd 0 it rfl hi
      rw [h0]
      cases E k
      · exact h
      · simp only [cond_true]; rw [app_hp, app_hp]; exact info_congr _ _ h
    · cases D k <;> cases E k <;> simp only [cond_true, cond_false, app_hp, info_same hi] <;> exact h

theorem mem_comm {a b : Nat} {m k : Mem} (hab : a ≠ b) (h : memIndep a m b k = true) (hp : Heap) : m.app a (k.app b hp) = k.app b (m.app a hp) := by
  have ap : ∀ {id lo hi id' lo' hi' : Nat}, apartB id lo hi id' lo' hi' = true → id ≠ id' ∨ hi ≤ lo' ∨ hi' ≤ lo := by
    intro id lo hi id' lo' hi' hh
    simp only [apartB, Bool.or_eq_true, Bool.not_eq_true', Nat.ble_eq] at hh
    rcases hh with hh | hh
    · exact .inl (fun e => by subst e; simp at hh)
    · exact .inr hh
  have ne : ∀ {x y : Nat}, (!(Nat.beq x y)) = true → x ≠ y := fun hh e => by subst e; simp at hh
  cases m <;> cases k <;> simp only [memIndep] at h <;> simp only [Mem.app] <;> funext j
  · rename_i id lo vs id' lo' vs'
    have := ap h
    rw [lenA_eq, lenA_eq] at this
    by_cases hid : id = id'
    · subst hid
      by_cases hj : j = id
      · subst hj
        simp only [upd_same]
        cases hp j with
        | none => rfl
        | some b =>
          simp only
          rw [setsA_comm]
          rcases this with h1 | h1 | h1
          · exact absurd rfl h1
          · exact .inr h1
          · exact .inl h1
      · simp only [upd_other _ _ hj]
    · by_cases hj : j = id
      · subst hj; simp only [upd_same, upd_other _ _ hid]
      · by_cases hj' : j = id'
        · subst hj'; simp only [upd_same, upd_other _ _ (Ne.symm hid)]
        · simp only [upd_other _ _ hj, upd_other _ _ hj']
  · rename_i id lo vs blk
    have hid := ne h
    by_cases hj : j = id
    · subst hj; simp only [upd_same, upd_other _ _ hid]
    · by_cases hj' : j = b
      · subst hj'; simp only [upd_same, upd_other _ _ (Ne.symm hid)]
      · simp only [upd_other _ _ hj, upd_other _ _ hj']
  · rename_i blk id lo vs
    have hid := ne h
    by_cases hj : j = id
    · subst hj; simp only [upd_same, upd_other _ _ hid]
    · by_cases hj' : j = a
      · subst hj'; simp only [upd_same, upd_other _ _ (Ne.symm hid)]
      · simp only [upd_other _ _ hj, upd_other _ _ hj']
  · by_cases hj : j = a
    · subst hj; simp only [upd_same, upd_other _ _ hab]
    · by_cases hj' : j = b
      · subst hj'; simp only [upd_same, upd_other _ _ (Ne.symm hab)]
      · simp only [upd_other _ _ hj, upd_other _ _ hj']

/-- all of a list's items, in their order: one more item is put in at its place, or at the end -/
theorem appD_push {D : Nat → Bool} {i : Nat} {it : It} : ∀ (l : List It) (k : Nat) (hp : Heap) (s : St), s.hp = it.mem.app (nx + i) hp → ∀ (s' : St), s'.hp = hp → i < k →
    (∀ m q, l[m]? = some q → D (k + m) = true → memIndep (nx + i) it.mem (nx + (k + m)) q.mem = true) → (appD nx D k l s).hp = it.mem.app (nx + i) (appD nx D k l s').hp
  | [], _, _, _, h, _, h', _, _ => by simp only [appD]; rw [h, h']
  | q :: l, k, hp, s, h, s', h', hk, hm => by
    simp only [appD]
    cases hD : D k
    · simp only [cond_false]
      exact appD_push l (k + 1) hp _ h _ h' (by omega) (fun m q' hq hd => by
        have := hm (m + 1) q' (by simpa using hq) (by rw [show k + (m + 1) = k + 1 + m by omega]; exact hd)
        rwa [show k + (m + 1) = k + 1 + m by omega] at this)
    · simp only [cond_true]
      have h0 := hm 0 q rfl (by simpa using hD)
      refine appD_push l (k + 1) (q.mem.app (nx + k) hp) _ ?_ _ ?_ (by omega) (fun m q' hq hd => by
        have := hm (m + 1) q' (by simpa using hq) (by rw [show k + (m + 1) = k + 1 + m by omega]; exact hd)
        rwa [show k + (m + 1) = k + 1 + m by omega] at this)
      · rw [app_hp, h]; exact (mem_comm (by omega) (by simpa using h0) hp).symm
      · rw [app_hp, h']

theorem appD_insert_hp {D : Nat → Bool} {i : Nat} {it : It} (hi : D i = false) : ∀ (l : List It) (k : Nat) (s : St), k ≤ i → l[i - k]? = some it →
    (∀ m q, l[m]? = some q → i < k + m → D (k + m) = true → memIndep (nx + i) it.mem (nx + (k + m)) q.mem = true) →
    (appD nx (fun j => D j || Nat.beq j i) k l s).hp = it.mem.app (nx + i) (appD nx D k l s).hp
  | [], _, _, _, h, _ => by simp at h
  | q :: l, k, s, hk, h, hm => by
    simp only [appD]
    by_cases hki : k = i
    · subst hki
      simp at h; subst h
      rw [hi, show Nat.beq k k = true by simp]
      simp only [Bool.or_true, cond_true, cond_false]
      have hext : ∀ (l : List It) (k' : Nat) (s : St), k < k' → appD nx (fun j => D j || Nat.beq j k) k' l s = appD nx D k' l s := by
        intro l
        induction l with
        | nil => intros; rfl
        | cons a l ih =>
          intro k' s hlt
          simp only [appD]
          rw [beq_ne (show k' ≠ k by omega), Bool.or_false, ih _ _ (by omega)]
      rw [hext l (k + 1) _ (by omega)]
      exact appD_push l (k + 1) s.hp _ (app_hp _ _ _) s rfl (by omega) (fun m q' hq hd => by
        have := hm (m + 1) q' (by simpa using hq) (by omega) (by rw [show k + (m + 1) = k + 1 + m by omega]; exact hd)
        rwa [show k + (m + 1) = k + 1 + m by omega] at this)
    · rw [beq_ne hki, Bool.or_false]
      refine appD_insert_hp hi l (k + 1) _ (by omega) ?_ (fun m q' hq hlt hd => by
        have := hm (m + 1) q' (by simpa using hq) (by omega) (by rw [show k + (m + 1) = k + 1 + m by omega]; exact hd)
        rwa [show k + (m + 1) = k + 1 + m by omega] at this)
      have : i - k = (i - (k + 1)) + 1 := by omega
      rw [this] at h; simpa using h

theorem appD_insert {D : Nat → Bool} {i : Nat} {it : It} {l : List It} {s : St} (hi : D i = false) (hl : l[i]? = some it)
    (hu : ∀ (m : Nat) (q : It) (d : Nat), m ≠ i → l[m]? = some q → it.dst = some d → q.dst ≠ some d)
    (hm : ∀ (m : Nat) (q : It), l[m]? = some q → i < m → D m = true → memIndep (nx + i) it.mem (nx + m) q.mem = true) :
    appD nx (fun j => D j || Nat.beq j i) 0 l s = it.app (nx + i) (appD nx D 0 l s) := by
  have h1 : (appD nx (fun j => D j || Nat.beq j i) 0 l s).hp = (it.app (nx + i) (appD nx D 0 l s)).hp := by
    rw [app_hp]
    exact appD_insert_hp hi l 0 s (Nat.zero_le _) (by simpa using hl) (fun m q hq hlt hd => by have := hm m q hq (by omega) (by simpa using hd); simpa using this)
  have h2 : (appD nx (fun j => D j || Nat.beq j i) 0 l s).tm = (it.app (nx + i) (appD nx D 0 l s)).tm := by
    funext t
    rw [app_tm]
    by_cases hd : it.dst = some t
    · rw [if_pos hd]
      exact appD_tm_some l 0 s i it hl hd (by simp) (fun m' q hne hq => hu m' q t hne hq hd)
    · rw [if_neg hd]
      refine appD_tm l 0 s s rfl (fun m q hq hq' => ?_)
      simp only [Nat.zero_add]
      have hne : m ≠ i := fun e => by subst e; rw [hl] at hq; cases hq; exact hd hq'
      rw [beq_ne hne, Bool.or_false]
  have h3 : (appD nx (fun j => D j || Nat.beq j i) 0 l s).n = (it.app (nx + i) (appD nx D 0 l s)).n := by rw [app_n, appD_n, appD_n]
  have h4 : (appD nx (fun j => D j || Nat.beq j i) 0 l s).nx = (it.app (nx + i) (appD nx D 0 l s)).nx := by rw [app_nx, appD_nx, appD_nx]
  cases ha : appD nx (fun j => D j || Nat.beq j i) 0 l s with
  | mk a b c d =>
    cases hb : it.app (nx + i) (appD nx D 0 l s) with
    | mk a' b' c' d' =>
      rw [ha, hb] at h1 h2 h3 h4
      simp only at h1 h2 h3 h4
      subst h1; subst h2; subst h3; subst h4; rfl
end

section
variable {P : Program} (pu : List (Nat × PureT)) (id0 : Nat)
/-- what an item of a plan says of its operation, in a state -/
def EffIt (s : St) (it : It) : Eff → Prop
  | .val x => it.res = x ∧ it.mem = .no
  | .load id row st col n agg => ∃ b, s.hp id = some b ∧ 1 ≤ n ∧ row * st + col + n ≤ b.cs.length ∧ it.mem = .ld id (row * st + col) (row * st + col + n) ∧
      (if agg = true then it.res = .agg ((b.cs.drop (row * st + col)).take n) else b.cs[row * st + col]? = some it.res)
  | .store id row st col vs => ∃ b, s.hp id = some b ∧ b.own = true ∧ 1 ≤ vs.length ∧ row * st + col + vs.length ≤ b.cs.length ∧ it.mem = .st id (row * st + col) vs ∧ it.res = .val undef
  | .alloc b mk => it.mem = .al b ∧ it.res = mk id0
  | .call f args => ∃ g x, assoc pu f = some g ∧ g args = some (true, x) ∧ it.res = x ∧ it.mem = .no
  | .app .. => False
  | .test c e => c = true ∧ EffIt s it e
  | .bad => False
def Runs (ops : Array Oper) (o : Oper) (s : St) : Prop :=
  match o.guard with
  | none => True
  | some (j, want) => ∃ d, (ops[j]?).bind (·.dst) = some d ∧ d < s.n ∧ s.tm d = .bool want
def Skips (ops : Array Oper) (o : Oper) (s : St) : Prop :=
  ∃ j want d, o.guard = some (j, want) ∧ (ops[j]?).bind (·.dst) = some d ∧ d < s.n ∧ (s.tm d = .bool (!want) ∨ ∃ vs, s.tm d = .val (.tuple vs))
def ItemOk (P : Program) (ops : Array Oper) (i : Nat) (it : It) (s : St) : Prop :=
  ∃ o, ops[i]? = some o ∧ it.dst = o.dst ∧ o.dst.getD 0 < s.n ∧ ((Runs ops o s ∧ EffIt pu id0 s it (eff P o.op s.eval)) ∨ (Skips ops o s ∧ it.res = .val undef ∧ it.mem = .no))
end
end Ev
end Go.Proofs.Ytialgmhhkbdegaa
/- That the symbolic evaluator of the text Ea is sound: a region whose order is open, second part. -/
namespace Go.Proofs.Ytialgmhhkbdegaa
open Go.RowKit
namespace Ev

section
variable {P : Program} {ρ ρ' : Operand → AV}
theorem map_congr_ops {l : List Operand} (h : ∀ x ∈ l, ρ x = ρ' x) : l.map ρ = l.map ρ' := List.map_congr_left h
theorem eff_congr (o : Op) (h : ∀ x ∈ o.operands, ρ x = ρ' x) : eff P o ρ = eff P o ρ' := by
  cases o <;> simp only [Op.operands, Call.operands] at h <;> first
    | rfl
    | (simp only [eff]; rw [h _ (by simp)]; done)
    | (simp only [eff]; rw [h _ (by simp)]; rfl)
    | skip
  case pick c a b =>
    have h1 := h c (by simp); have h2 := h a (by simp); have h3 := h b (by simp)
    simp only [eff, h1, h2, h3]
  case build t parts =>
    have hp : (parts.toList.map fun p => (p.1, ρ p.2)) = parts.toList.map fun p => (p.1, ρ' p.2) := List.map_congr_left fun p hp => by
      rw [h p.2 (by simp; exact ⟨p.1, by simpa using hp⟩)]
    simp only [eff, hp]
  case buildSlice t len parts =>
    have hp : (parts.toList.map fun p => (p.1, ρ p.2)) = parts.toList.map fun p => (p.1, ρ' p.2) := List.map_congr_left fun p hp => by
      rw [h p.2 (by simp; exact ⟨p.1, by simpa using hp⟩)]
    simp only [eff, hp]
  case store t a v =>
    have h1 := h a (by simp); have h2 := h v (by simp)
    simp only [eff, h1, h2]
  case binOp op t a v ty =>
    have h1 := h a (by simp); have h2 := h v (by simp)
    simp only [eff, h1, h2]
  case indexAddr t a v =>
    have h1 := h a (by simp); have h2 := h v (by simp)
    simp only [eff, h1, h2]
  case makeSlice t a v =>
    have h1 := h a (by simp); have h2 := h v (by simp)
    simp only [eff, h1, h2]
  case index t a v =>
    have h1 := h a (by simp); have h2 := h v (by simp)
    simp only [eff, h1, h2]
  case makeFunc fn first captured =>
    have h1 : first.toList.map ρ = first.toList.map ρ' := map_congr_ops fun x hx => h x (by have hx' := Array.mem_toList_iff.1 hx; simp [hx'])
    have h2 : captured.toList.map ρ = captured.toList.map ρ' := map_congr_ops fun x hx => h x (by have hx' := Array.mem_toList_iff.1 hx; simp [hx'])
    simp only [eff, h1, h2]
  case call c =>
    obtain ⟨callee, args, ts⟩ := c
    have h1 : args.toList.map ρ = args.toList.map ρ' := map_congr_ops fun x hx => h x (by have hx' := Array.mem_toList_iff.1 hx; simp [hx'])
    cases callee with
    | value f =>
      have h2 := h f (by simp)
      simp only [eff, h1, h2]
    | invoke r m => rfl
    | builtin b => simp only [eff, h1]
end

section
variable {P : Program} {pu : List (Nat × PureT)} {nx : Nat}

theorem effIt_transport {id0 : Nat} {s s' : St} {it : It} (hm : match it.mem with
      | .ld id lo hi => ∀ c, lo ≤ c → c < hi → info s'.hp id c = info s.hp id c
      | .st id lo vs => ∀ c, lo ≤ c → c < lo + vs.length → info s'.hp id c = info s.hp id c
      | _ => True) : ∀ (e : Eff), EffIt pu id0 s it e → EffIt pu id0 s' it e
  | .val x, h => h
  | .load id row st col n agg, h => by
    simp only [EffIt] at h ⊢
    obtain ⟨b, h1, h2, h3, h4, h5⟩ := h
    rw [h4] at hm
    simp only at hm
    have hget : ∀ c, row * st + col ≤ c → c < row * st + col + n → ∃ b', s'.hp id = some b' ∧ b'.cs.length = b.cs.length ∧ b'.cs[c]? = b.cs[c]? := by
      intro c hc1 hc2
      have := hm c hc1 hc2
      simp only [info, h1, Option.map_some] at this
      cases hb : s'.hp id with
      | none => simp [hb] at this
      | some b' =>
        simp only [hb, Option.map_some, Option.some.injEq, Prod.mk.injEq] at this
        exact ⟨b', rfl, this.2.2.1, this.2.2.2⟩
    obtain ⟨b', k1, k2, k3⟩ := hget (row * st + col) (Nat.le_refl _) (by omega)
    refine ⟨b', k1, h2, by omega, h4, ?_⟩
    cases agg with
    | true =>
      simp only [if_true] at h5 ⊢
      rw [h5]
      congr 1
      apply List.ext_getElem?
      intro j
      rw [List.getElem?_take, List.getElem?_take]
      split
      · rename_i hj
        rw [List.getElem?_drop, List.getElem?_drop]
        obtain ⟨b2, m1, m2, m3⟩ := hget (row * st + col + j) (by omega) (by omega)
        rw [k1] at m1; cases m1
        exact m3.symm
      · rfl
    | false =>
      simp only [Bool.false_eq_true, if_false] at h5 ⊢
      rw [k3, h5]
  | .store id row st col vs, h => by
    simp only [EffIt] at h ⊢
    obtain ⟨b, h1, h2, h3, h4, h5, h6⟩ := h
    rw [h5] at hm
    simp only at hm
    have := hm (row * st + col) (Nat.le_refl _) (by omega)
    simp only [info, h1, Option.map_some] at this
    cases hb : s'.hp id with
    | none => simp [hb] at this
    | some b' =>
      simp only [hb, Option.map_some, Option.some.injEq, Prod.mk.injEq] at this
      exact ⟨b', rfl, by rw [this.2.1]; exact h2, h3, by rw [this.2.2.1]; exact h4, h5, h6⟩
  | .alloc b mk, h => h
  | .app .., h => h
  | .call f args, h => h
  | .test c e, h => by
    simp only [EffIt] at h ⊢
    exact ⟨h.1, effIt_transport hm e h.2⟩
  | .bad, h => h

theorem item_transport {ops : Array Oper} {id0 i : Nat} {it : It} {s s' : St} (h : ItemOk pu id0 P ops i it s) (hn : s'.n = s.n) (ht : ∀ o, ops[i]? = some o → ∀ t ∈ looks ops o, s'.tm t = s.tm t)
    (hm : match it.mem with
      | .ld id lo hi => ∀ c, lo ≤ c → c < hi → info s'.hp id c = info s.hp id c
      | .st id lo vs => ∀ c, lo ≤ c → c < lo + vs.length → info s'.hp id c = info s.hp id c
      | _ => True) : ItemOk pu id0 P ops i it s' := by
  obtain ⟨o, h1, h2, h3, h4⟩ := h
  have ht' := ht o h1
  have hev : ∀ x ∈ o.op.operands, s'.eval x = s.eval x := by
    intro x hx
    cases x with
    | tmp t => exact ht' t (by simp only [looks, List.mem_append, List.mem_filterMap]; exact .inl ⟨.tmp t, Array.mem_toList_iff.2 hx, rfl⟩)
    | _ => rfl
  have hgd : ∀ j want d, o.guard = some (j, want) → (ops[j]?).bind (·.dst) = some d → s'.tm d = s.tm d := by
    intro j want d hg hd
    exact ht' d (by simp only [looks, hg, hd, List.mem_append]; exact .inr (by simp))
  refine ⟨o, h1, h2, by rw [hn]; exact h3, ?_⟩
  rcases h4 with ⟨hr, he⟩ | ⟨hs, hres, hmem⟩
  · left
    refine ⟨?_, ?_⟩
    · unfold Runs at hr ⊢
      cases hg : o.guard with
      | none => trivial
      | some g =>
        obtain ⟨j, want⟩ := g
        rw [hg] at hr
        obtain ⟨d, k1, k2, k3⟩ := hr
        exact ⟨d, k1, by rw [hn]; exact k2, by rw [hgd j want d hg k1]; exact k3⟩
    · rw [eff_congr (P := P) o.op hev]
      exact effIt_transport hm _ he
  · right
    refine ⟨?_, hres, hmem⟩
    obtain ⟨j, want, d, k1, k2, k3, k4⟩ := hs
    refine ⟨j, want, d, k1, k2, by rw [hn]; exact k3, ?_⟩
    rw [hgd j want d k1 k2]; exact k4

/-- a new block at a number that is free -/
theorem HRel.allocAt {B : Nat} {σ : Nat → Option Nat} {hp : Heap} {m : Nat} {w : World} (h : HRel B σ hp m w) (hB : B ≤ w.heap.size) {id : Nat} (hid : σ id = none) (hlt : id < m) {b : Blk} {us : List Value} (hu : RepL σ b.cs us) :
    ∃ τ, Ext σ τ ∧ (∀ j, j ≠ id → τ j = σ j) ∧ τ id = some w.heap.size ∧ HRel B τ (upd hp id (some b)) m (w.alloc (.cells us.toArray b.ty)) := by
  have he : Ext σ (upd σ id (some w.heap.size)) := fun i n hi => by
    rw [upd_other _ _ (fun e => by rw [e, hid] at hi; simp at hi)]; exact hi
  refine ⟨upd σ id (some w.heap.size), he, fun j hj => upd_other _ _ hj, upd_same _ _ _, ?_, ?_, ?_, ?_⟩
  · intro j c hc
    by_cases hj : j = id
    · subst hj
      rw [upd_same] at hc; cases hc
      refine ⟨w.heap.size, us, upd_same _ _ _, ?_, RepL.mono he _ _ hu, fun _ => hB⟩
      show (w.heap.push _)[w.heap.size]? = _
      simp
    · rw [upd_other _ _ hj] at hc
      obtain ⟨n, vs, h1, h2, h3, h4⟩ := h.cell j c hc
      refine ⟨n, vs, by rw [upd_other _ _ hj]; exact h1, ?_, RepL.mono he _ _ h3, h4⟩
      rw [Below.heap_alloc _ _ _ (h.bound j n h1)]; exact h2
  · intro i j n hi hj
    by_cases h1 : i = id
    · by_cases h2 : j = id
      · rw [h1, h2]
      · subst h1
        rw [upd_same] at hi; rw [upd_other _ _ h2] at hj
        cases hi
        exact absurd (h.bound j _ hj) (Nat.lt_irrefl _)
    · by_cases h2 : j = id
      · subst h2
        rw [upd_same] at hj; rw [upd_other _ _ h1] at hi
        cases hj
        exact absurd (h.bound i _ hi) (Nat.lt_irrefl _)
      · rw [upd_other _ _ h1] at hi; rw [upd_other _ _ h2] at hj; exact h.inj i j n hi hj
  · intro i hi
    rw [upd_other _ _ (by omega)]; exact h.fresh i (by omega)
  · intro i n hi
    have hs : (w.alloc (.cells us.toArray b.ty)).heap.size = w.heap.size + 1 := by simp
    by_cases h1 : i = id
    · subst h1; rw [upd_same] at hi; cases hi; omega
    · rw [upd_other _ _ h1] at hi; have := h.bound i n hi; omega

def PuOk (P : Program) (pu : List (Nat × PureT)) : Prop := ∀ p ∈ pu, Plain P p.1 ∧ PureOk P p.1 p.2

theorem effIt_step (hpu : PuOk P pu) {w0 : World} {σ : Nat → Option Nat} {s : St} {a : Go.Act} {w : World} {o : Oper} {id0 : Nat} {it : It} {next : Go.Act → World → Prop} {Q : Exit → Go.Act → World → Prop} {r : Result Next}
    (hS : Sat w0 σ s a w) (hfree : σ id0 = none) (hid : id0 < s.nx) (hdst : it.dst = o.dst) (hd : o.dst.getD 0 < s.n)
    (hK : ∀ τ a' w', Ext σ τ → (∀ j, j ≠ id0 → τ j = σ j) → Sat w0 τ (it.app id0 s) a' w' → next a' w') : ∀ (e : Eff), AOk P σ w r e → EffIt pu id0 s it e → o.upon P a next Q r
  | .val x, he, h => by
    simp only [AOk] at he
    obtain ⟨v, rfl, hv⟩ := he
    simp only [EffIt] at h
    rw [Oper.upon_value]
    refine hK σ _ _ (Ext.refl _) (fun _ _ => rfl) ?_
    have : it.app id0 s = s.put o.dst x := by simp only [It.app, h.2, Mem.app, h.1, hdst]
    rw [this]; exact hS.put hd hv
  | .load id row st col n agg, he, h => by
    simp only [AOk] at he
    obtain ⟨hn, he⟩ := he
    simp only [EffIt] at h
    obtain ⟨b, hb, h0, hl, hmem, hres⟩ := h
    obtain ⟨m, vs, h1, h2, h3, h4⟩ := hS.h.cell id b hb
    rw [he m b.ty vs h1 h2 (by rw [← h3.length]; exact hl), Oper.upon_value]
    refine hK σ _ _ (Ext.refl _) (fun _ _ => rfl) ?_
    have : it.app id0 s = s.put o.dst it.res := by simp only [It.app, hmem, Mem.app, hdst]
    rw [this]
    refine hS.put hd ?_
    cases agg with
    | true =>
      simp only [if_true] at hres ⊢
      rw [hres]; simp only [Rep]
      exact ⟨_, (h3.drop _).take _, rfl⟩
    | false =>
      simp only [Bool.false_eq_true, if_false] at hres ⊢
      obtain ⟨v, hv, hr⟩ := h3.get hres
      simp only [List.getD, hv, Option.getD_some]
      exact hr
  | .store id row st col xs, he, h => by
    simp only [AOk] at he
    obtain ⟨us, hu, he⟩ := he
    simp only [EffIt] at h
    obtain ⟨b, hb, ho, h0, hl, hmem, hres⟩ := h
    obtain ⟨m, vs, h1, h2, h3, h4⟩ := hS.h.cell id b hb
    rw [he m b.ty vs h1 h2 (by rw [← h3.length, ← hu.length]; exact hl), Oper.upon_skip]
    have hh := hS.h.store hb h1 (setsA_rep _ _ (row * st + col) _ _ h3 hu) ho
    have hS' : Sat w0 σ { s with hp := upd s.hp id (some ⟨b.ty, setsA b.cs (row * st + col) xs, true⟩) } a (w.setRow m (setsA vs (row * st + col) us).toArray) :=
      hS.mono (Ext.refl _) hh (below_setRow hS.bl (h4 ho) _)
    refine hK σ _ _ (Ext.refl _) (fun _ _ => rfl) ?_
    have : it.app id0 s = ({ s with hp := upd s.hp id (some ⟨b.ty, setsA b.cs (row * st + col) xs, true⟩) } : St).put o.dst (.val undef) := by
      simp only [It.app, hmem, Mem.app, hb, ho, hres, hdst]
    rw [this]
    exact hS'.put hd (by simp only [Rep])
  | .alloc b mk, he, h => by
    simp only [AOk] at he
    obtain ⟨us, v, hu, rfl, hv⟩ := he
    simp only [EffIt] at h
    rw [Oper.upon_value]
    obtain ⟨τ, e, hoth, hτ, hh⟩ := hS.h.allocAt hS.bl.size hfree hid hu
    have hS' : Sat w0 τ { s with hp := upd s.hp id0 (some b) } a _ := hS.mono e hh (hS.bl.alloc hS.bl.size _)
    refine hK τ _ _ e hoth ?_
    have : it.app id0 s = ({ s with hp := upd s.hp id0 (some b) } : St).put o.dst (mk id0) := by
      simp only [It.app, h.1, Mem.app, h.2, hdst]
    rw [this]
    exact hS'.put hd (hv τ id0 e hτ)
  | .app .., he, h => by simp [EffIt] at h
  | .call f xs, he, h => by
    simp only [AOk] at he
    obtain ⟨us, hu, rfl⟩ := he
    simp only [EffIt] at h
    obtain ⟨g, x, hg, hgx, hres, hmem⟩ := h
    obtain ⟨h1, h2⟩ := hpu _ (assoc_mem hg)
    rw [h1.run, Oper.upon_enter]
    refine (h2 σ w xs us x hu hgx).mono ?_
    rintro e w' ⟨v, rfl, hv, hbl⟩
    have hS' : Sat w0 σ { s with hp := s.hp, nx := s.nx } a w' := hS.mono (Ext.refl _) (hS.h.below hbl) (hS.bl.trans (hbl.mono hS.bl.size))
    refine hK σ _ _ (Ext.refl _) (fun _ _ => rfl) ?_
    have : it.app id0 s = ({ s with hp := s.hp, nx := s.nx } : St).put o.dst x := by simp only [It.app, hmem, Mem.app, hres, hdst]
    rw [this]
    exact hS'.put hd hv
  | .test c e, he, h => by
    simp only [AOk] at he
    simp only [EffIt] at h
    exact effIt_step hpu hS hfree hid hdst hd hK e (he h.1) h.2
  | .bad, _, h => by simp [EffIt] at h

theorem item_step (hpu : PuOk P pu) {w0 : World} {σ : Nat → Option Nat} {s : St} {a : Go.Act} {w : World} {ops : Array Oper} {i id0 : Nat} {it : It} {K : Go.Act → World → Prop} {Q : Exit → Go.Act → World → Prop}
    (hS : Sat w0 σ s a w) (hfree : σ id0 = none) (hid : id0 < s.nx) (hi : ItemOk pu id0 P ops i it s)
    (hK : ∀ τ a' w', Ext σ τ → (∀ j, j ≠ id0 → τ j = σ j) → Sat w0 τ (it.app id0 s) a' w' → K a' w') : wpOp P ops Q i K a w := by
  obtain ⟨o, h1, h2, h3, h4⟩ := hi
  unfold wpOp
  simp only [h1]
  rcases h4 with ⟨hr, he⟩ | ⟨⟨j, want, d, k1, k2, k3, k4⟩, hres, hmem⟩
  · have hw : Region.wanted o (yielded ops a.tmps) = true := by
      unfold Runs at hr
      cases hg : o.guard with
      | none => simp [Region.wanted, hg]
      | some g =>
        obtain ⟨j, want⟩ := g
        rw [hg] at hr
        obtain ⟨d, k1, k2, k3⟩ := hr
        have hy := yielded_of k1 (by rw [hS.n]; exact k2)
        have hrep := hS.tm d
        rw [k3] at hrep; simp only [Rep] at hrep
        rw [hrep] at hy
        simp [Region.wanted, hg, hy]
    rw [if_pos hw]
    exact .inl (effIt_step hpu hS hfree hid h2 h3 hK _ (eff_ok hS.eval o) he)
  · have hy := yielded_of k2 (by rw [hS.n]; exact k3)
    have hrep := hS.tm d
    have hw : ¬ Region.wanted o (yielded ops a.tmps) = true := by
      rcases k4 with k4 | ⟨vs, k4⟩
      · rw [k4] at hrep; simp only [Rep] at hrep
        rw [hrep] at hy
        simp [Region.wanted, k1, hy]
      · rw [k4] at hrep; simp only [Rep] at hrep
        rw [hrep] at hy
        simp [Region.wanted, k1, hy]
    rw [if_neg hw]
    refine hK σ _ _ (Ext.refl _) (fun _ _ => rfl) ?_
    have : it.app id0 s = s.put o.dst (.val undef) := by simp only [It.app, hmem, Mem.app, hres, h2]
    rw [this]
    exact hS.put h3 (by simp only [Rep])
end
end Ev
end Go.Proofs.Ytialgmhhkbdegaa
/- That the symbolic evaluator of the text Ea is sound: a region whose order is open, third part: every order that the edges allow. -/
namespace Go.Proofs.Ytialgmhhkbdegaa
open Go.RowKit
namespace Ev

section
variable {P : Program} {pu : List (Nat × PureT)} {nx : Nat} {ops : Array Oper}

theorem blt_t {a b : Nat} : Nat.blt a b = true ↔ a < b := by unfold Nat.blt; rw [Nat.ble_eq]; exact Iff.rfl
/-- all operations that have to come before operation j are in D -/
def Pre (ops : Array Oper) (D : Nat → Bool) (j : Nat) : Prop := ∀ o, ops[j]? = some o → ∀ e ∈ o.after, Region.binds .any e = true → D e.on = true
def Closed (ops : Array Oper) (D : Nat → Bool) : Prop := ∀ j, D j = true → Pre ops D j

theorem maskOf_spec {D : Nat → Bool} {acc : List Nat} (hacc : ∀ j m, acc[j]? = some m → D j = true → ∀ i, Nat.testBit m i = true → D i = true) : ∀ (l : List Edge), (∀ e ∈ l, Region.binds .any e = true → D e.on = true) → ∀ i, Nat.testBit (maskOf acc l) i = true → D i = true
  | [], _, i, h => by simp [maskOf] at h
  | e :: l, hl, i, h => by
    simp only [maskOf] at h
    cases hb : Region.binds .any e with
    | false =>
      simp only [hb, cond_false] at h
      exact maskOf_spec hacc l (fun e' he' => hl e' (by simp [he'])) i h
    | true =>
      simp only [hb, cond_true, Nat.testBit_or, Bool.or_eq_true] at h
      have hD := hl e (by simp) hb
      rcases h with (h | h) | h
      · rw [Nat.testBit_two_pow] at h
        have : e.on = i := by simpa using h
        rw [← this]; exact hD
      · rw [nth_eq] at h
        cases hm : acc[e.on]? with
        | none => simp [hm] at h
        | some m => rw [hm] at h; exact hacc e.on m hm hD i h
      · exact maskOf_spec hacc l (fun e' he' => hl e' (by simp [he'])) i h

theorem masks_spec : ∀ (l : List Oper) (acc : List Nat), (∀ k, l[k]? = ops[acc.length + k]?) →
    (∀ j m, acc[j]? = some m → ∀ D, Closed ops D → Pre ops D j → ∀ i, Nat.testBit m i = true → D i = true) →
    (masks l acc).length = acc.length + l.length ∧ ∀ j m, (masks l acc)[j]? = some m → ∀ D, Closed ops D → Pre ops D j → ∀ i, Nat.testBit m i = true → D i = true
  | [], acc, _, hacc => ⟨rfl, hacc⟩
  | o :: l, acc, hl, hacc => by
    simp only [masks]
    have ho : ops[acc.length]? = some o := by have := hl 0; simpa using this.symm
    have ih := masks_spec l (acc ++ [maskOf acc o.after.toList]) (fun k => by
      have := hl (k + 1)
      simp only [List.getElem?_cons_succ] at this
      rw [this]
      congr 1
      simp; omega) ?_
    · exact ⟨by rw [ih.1]; simp; omega, ih.2⟩
    · intro j m hj D hD hpre i hi
      rw [List.getElem?_append] at hj
      split at hj
      · exact hacc j m hj D hD hpre i hi
      · rename_i hlt
        have hj' : j = acc.length := by
          by_cases h0 : j - acc.length = 0
          · omega
          · have : j - acc.length = (j - acc.length - 1) + 1 := by omega
            rw [this] at hj; simp at hj
        subst hj'
        simp at hj
        subst hj
        exact maskOf_spec (fun j m hj hDj => hacc j m hj D hD (hD j hDj)) _ (fun e he hb => hpre o ho e (Array.mem_toList_iff.1 he) hb) i hi

theorem edges_spec : ∀ (l : List Oper) (i : Nat), edgesOk l i = true → ∀ k o, l[k]? = some o → ∀ e ∈ o.after, Region.binds .any e = true → e.on < i + k
  | [], _, _, _, _, h => by simp at h
  | o :: l, i, h, k, o', hk => by
    simp only [edgesOk, Bool.and_eq_true] at h
    cases k with
    | zero =>
      simp at hk; subst hk
      intro e he hb
      have := List.all_eq_true.1 h.1 e (Array.mem_toList_iff.2 he)
      rw [hb] at this
      simpa using blt_t.1 this
    | succ k =>
      intro e he hb
      have := edges_spec l (i + 1) h.2 k o' (by simpa using hk) e he hb
      omega

theorem rowOk_spec {i : Nat} {r : Row} : ∀ (l : List Row) (j : Nat), rowOk nx i r j l = true → ∀ k q, l[k]? = some q → pairOk nx i r (j + k) q = true
  | [], _, _, _, _, h => by simp at h
  | q :: l, j, h, k, q', hk => by
    simp only [rowOk, Bool.and_eq_true] at h
    cases k with
    | zero => simp at hk; subst hk; exact h.1
    | succ k =>
      have := rowOk_spec l (j + 1) h.2 k q' (by simpa using hk)
      rwa [show j + (k + 1) = j + 1 + k by omega]
theorem rowsOk_spec : ∀ (l : List Row) (i : Nat), rowsOk nx i l = true → ∀ a b r q, a < b → l[a]? = some r → l[b]? = some q → pairOk nx (i + a) r (i + b) q = true
  | [], _, _, _, _, _, _, _, h, _ => by simp at h
  | x :: l, i, h, a, b, r, q, hab, ha, hb => by
    simp only [rowsOk, Bool.and_eq_true] at h
    cases b with
    | zero => omega
    | succ b =>
      cases a with
      | zero =>
        simp at ha; subst ha
        have := rowOk_spec l (i + 1) h.1 b q (by simpa using hb)
        rwa [show i + (b + 1) = i + 1 + b by omega]
      | succ a =>
        have := rowsOk_spec l (i + 1) h.2 a b r q (by omega) (by simpa using ha) (by simpa using hb)
        rwa [show i + (a + 1) = i + 1 + a by omega, show i + (b + 1) = i + 1 + b by omega]
theorem rowsOf_get : ∀ (l : List Oper) (is : List It) (ms : List Nat) (k : Nat) (o : Oper) (it : It) (m : Nat), l[k]? = some o → is[k]? = some it → ms[k]? = some m → (rowsOf ops l is ms)[k]? = some ⟨it.dst, looks ops o, it.mem, m⟩
  | [], _, _, _, _, _, _, h, _, _ => by simp at h
  | _ :: _, [], _, _, _, _, _, _, h, _ => by simp at h
  | _ :: _, _ :: _, [], _, _, _, _, _, _, h => by simp at h
  | a :: l, b :: is, c :: ms, k, o, it, m, h1, h2, h3 => by
    cases k with
    | zero => simp at h1 h2 h3; subst h1; subst h2; subst h3; rfl
    | succ k =>
      simp only [rowsOf, List.getElem?_cons_succ]
      exact rowsOf_get l is ms k o it m (by simpa using h1) (by simpa using h2) (by simpa using h3)

/-- a pair of operations that no edge orders leave each other alone -/
structure Apart (nx i : Nat) (r : It) (lr : List Nat) (j : Nat) (q : It) (lq : List Nat) : Prop where
  d1 : ∀ d, r.dst = some d → d ∉ lq
  d2 : ∀ d, q.dst = some d → d ∉ lr
  m : memIndep (nx + i) r.mem (nx + j) q.mem = true

theorem plan_pairs {items : List It} (hp : planOk nx ops items = true) (hlen : items.length ≤ ops.size) {i j : Nat} {r q : It} {o o' : Oper} (hij : i < j) (hr : items[i]? = some r) (hq : items[j]? = some q) (ho : ops[i]? = some o) (ho' : ops[j]? = some o') :
    (∀ d, r.dst = some d → q.dst ≠ some d) ∧ ((∀ D, Closed ops D → Pre ops D j → D i = true) ∨ Apart nx i r (looks ops o) j q (looks ops o')) := by
  simp only [planOk, Bool.and_eq_true] at hp
  have hm := masks_spec (ops := ops) ops.toList [] (fun k => by simp) (fun j m h => by simp at h)
  have hjlt : j < items.length := (List.getElem?_eq_some_iff.1 hq).1
  have hml : (masks ops.toList []).length = ops.size := by rw [hm.1]; simp
  obtain ⟨mi, hmi⟩ : ∃ m, (masks ops.toList [])[i]? = some m := ⟨_, List.getElem?_eq_getElem (by rw [hml]; omega)⟩
  obtain ⟨mj, hmj⟩ : ∃ m, (masks ops.toList [])[j]? = some m := ⟨_, List.getElem?_eq_getElem (by rw [hml]; omega)⟩
  have h1 := rowsOf_get (ops := ops) ops.toList items (masks ops.toList []) i o r mi (by simpa using ho) hr hmi
  have h2 := rowsOf_get (ops := ops) ops.toList items (masks ops.toList []) j o' q mj (by simpa using ho') hq hmj
  have h3 := rowsOk_spec _ 0 hp.2 i j _ _ hij h1 h2
  simp only [Nat.zero_add, pairOk, Bool.and_eq_true, Bool.or_eq_true] at h3
  obtain ⟨h4, h5⟩ := h3
  have hnot : ∀ (d : Option Nat) (l : List Nat), notIn d l = true → ∀ x, d = some x → x ∉ l := by
    intro d l h x hx hmem
    subst hx
    simp only [notIn] at h
    have := List.all_eq_true.1 h x hmem
    simp at this
  refine ⟨fun d hd hd' => ?_, ?_⟩
  · rw [hd, hd'] at h4
    simp [diffD] at h4
  · rcases h5 with h5 | ⟨h5, h6, h7⟩
    · exact .inl fun D hD hpre => hm.2 j mj hmj D hD hpre i h5
    · exact .inr ⟨hnot _ _ h5, hnot _ _ h6, h7⟩

theorem memIndep_writes {a b : Nat} {m k : Mem} (h : memIndep a m b k = true) : match m with
    | .ld id lo hi => ∀ c, lo ≤ c → c < hi → ¬ writes k b id c
    | .st id lo vs => ∀ c, lo ≤ c → c < lo + vs.length → ¬ writes k b id c
    | _ => True := by
  have ap : ∀ {id lo hi id' lo' hi' : Nat}, apartB id lo hi id' lo' hi' = true → id ≠ id' ∨ hi ≤ lo' ∨ hi' ≤ lo := by
    intro id lo hi id' lo' hi' hh
    simp only [apartB, Bool.or_eq_true, Bool.not_eq_true', Nat.ble_eq] at hh
    rcases hh with hh | hh
    · exact .inl (fun e => by subst e; simp at hh)
    · exact .inr hh
  have ne : ∀ {x y : Nat}, (!(Nat.beq x y)) = true → x ≠ y := fun hh e => by subst e; simp at hh
  cases m <;> cases k <;> simp only [memIndep, writes] at h ⊢ <;> try (intros; simp; done)
  · rename_i id lo hi id' lo' vs
    have := ap h
    rw [lenA_eq] at this
    rintro c h1 h2 ⟨rfl, h3, h4⟩
    rcases this with h5 | h5 | h5
    · exact h5 rfl
    · omega
    · omega
  · rename_i id lo hi blk
    intro c _ _ e
    exact ne h e.symm
  · rename_i id lo vs id' lo' vs'
    have := ap h
    rw [lenA_eq, lenA_eq] at this
    rintro c h1 h2 ⟨rfl, h3, h4⟩
    rcases this with h5 | h5 | h5
    · exact h5 rfl
    · omega
    · omega
  · rename_i id lo vs blk
    intro c _ _ e
    exact ne h e.symm
theorem memIndep_symm {a b : Nat} {m k : Mem} (h : memIndep a m b k = true) : memIndep b k a m = true := by
  have sy : ∀ {id lo hi id' lo' hi' : Nat}, apartB id lo hi id' lo' hi' = true → apartB id' lo' hi' id lo hi = true := by
    intro id lo hi id' lo' hi' hh
    simp only [apartB, Bool.or_eq_true, Bool.not_eq_true', Nat.ble_eq] at hh ⊢
    rcases hh with hh | hh | hh
    · left
      cases hb : Nat.beq id' id with
      | false => rfl
      | true =>
        have := Nat.eq_of_beq_eq_true hb
        subst this; simp at hh
    · exact .inr (.inr hh)
    · exact .inr (.inl hh)
  cases m <;> cases k <;> simp only [memIndep] at h ⊢ <;> first | exact sy h | exact h

/-- items that are right in the text's order are right in every state that the edges allow -/
theorem plan_item {items : List It} {s : St} (hp : planOk nx ops items = true) (hlen : items.length ≤ ops.size) {D : Nat → Bool} (hD : Closed ops D) {i : Nat} {it : It} (hit : items[i]? = some it) (hi : D i = false) (hpre : Pre ops D i)
    (hv : ItemOk pu (nx + i) P ops i it (appD nx (fun k => Nat.blt k i) 0 items s)) : ItemOk pu (nx + i) P ops i it (appD nx D 0 items s) := by
  obtain ⟨o, ho⟩ : ∃ o, ops[i]? = some o := by obtain ⟨o, h, _⟩ := hv; exact ⟨o, h⟩
  have ilt : i < items.length := (List.getElem?_eq_some_iff.1 hit).1
  -- whoever stands on another side in the two states is ordered with i by no edge
  have key : ∀ (m : Nat) (q : It), items[m]? = some q → D m ≠ Nat.blt m i → m ≠ i → (∀ d, q.dst = some d → d ∉ looks ops o) ∧ memIndep (nx + i) it.mem (nx + m) q.mem = true := by
    intro m q hq hne hmi
    have mlt : m < items.length := (List.getElem?_eq_some_iff.1 hq).1
    obtain ⟨o', ho'⟩ : ∃ o', ops[m]? = some o' := ⟨_, Array.getElem?_eq_getElem (by omega)⟩
    rcases Nat.lt_or_gt_of_ne hmi with hlt | hgt
    · have hb : Nat.blt m i = true := blt_t.2 hlt
      have hDm : D m = false := by cases h : D m with
        | false => rfl
        | true => rw [h, hb] at hne; exact absurd rfl hne
      rcases (plan_pairs hp hlen hlt hq hit ho' ho).2 with h | h
      · rw [h D hD hpre] at hDm; simp at hDm
      · exact ⟨h.d1, memIndep_symm h.m⟩
    · have hb : Nat.blt m i = false := by
        cases h : Nat.blt m i with
        | false => rfl
        | true => have : m < i := blt_t.1 h
                  omega
      have hDm : D m = true := by cases h : D m with
        | true => rfl
        | false => rw [h, hb] at hne; exact absurd rfl hne
      rcases (plan_pairs hp hlen hgt hit hq ho ho').2 with h | h
      · have := h D hD (hD m hDm); rw [this] at hi; simp at hi
      · exact ⟨h.d2, h.m⟩
  have hbi : Nat.blt i i = false := by
    cases h : Nat.blt i i with
    | false => rfl
    | true => have : i < i := blt_t.1 h
              omega
  refine item_transport hv (by rw [appD_n, appD_n]) ?_ ?_
  · intro o1 ho1 t ht
    rw [ho] at ho1; cases ho1
    refine appD_tm items 0 s s rfl (fun m q hq hd => ?_)
    simp only [Nat.zero_add]
    by_cases hmi : m = i
    · subst hmi; rw [hi, hbi]
    · by_cases hne : D m = Nat.blt m i
      · exact hne
      · exact absurd ht ((key m q hq hne hmi).1 t hd)
  · have hagree : ∀ id c, (∀ m q, items[m]? = some q → memIndep (nx + i) it.mem (nx + m) q.mem = true → ¬ writes q.mem (nx + m) id c) → info (appD nx D 0 items s).hp id c = info (appD nx (fun k => Nat.blt k i) 0 items s).hp id c := by
      intro id c hw
      refine appD_info items 0 s s rfl (fun m q hq hwr => ?_)
      simp only [Nat.zero_add] at hwr ⊢
      by_cases hmi : m = i
      · subst hmi; rw [hi, hbi]
      · by_cases hne : D m = Nat.blt m i
        · exact hne
        · exact absurd hwr (hw m q hq (key m q hq hne hmi).2)
    cases hmem : it.mem with
    | ld id lo hi' =>
      intro c h1 h2
      refine hagree id c (fun m q hq hind => ?_)
      rw [hmem] at hind
      exact memIndep_writes hind c h1 h2
    | st id lo vs =>
      intro c h1 h2
      refine hagree id c (fun m q hq hind => ?_)
      rw [hmem] at hind
      exact memIndep_writes hind c h1 h2
    | _ => trivial

def cnt (n : Nat) (listed : Array Bool) : Nat := (List.range n).countP fun i => !(listed.getD i true)
theorem countP_drop {p q : Nat → Bool} {i : Nat} (hp : p i = true) (hq : q i = false) (h : ∀ j, j ≠ i → q j = p j) : ∀ (l : List Nat), l.Nodup → i ∈ l → l.countP q + 1 = l.countP p
  | [], _, hm => by simp at hm
  | a :: l, hn, hm => by
    rw [List.nodup_cons] at hn
    by_cases ha : a = i
    · subst ha
      rw [List.countP_cons_of_pos hp, List.countP_cons_of_neg (by simp [hq])]
      congr 1
      exact List.countP_congr fun j hj => by rw [h j (fun e => hn.1 (e ▸ hj))]
    · have him : i ∈ l := by rcases List.mem_cons.1 hm with e | e
                             · exact absurd e.symm ha
                             · exact e
      have ih := countP_drop hp hq h l hn.2 him
      by_cases hpa : p a = true
      · rw [List.countP_cons_of_pos hpa, List.countP_cons_of_pos (by rw [h a ha]; exact hpa)]; omega
      · rw [List.countP_cons_of_neg (by rw [h a ha]; exact hpa), List.countP_cons_of_neg hpa]; omega

theorem full_spec {m : Nat} : ∀ (l : List Nat) (k0 : Nat), fullOk m k0 l = true → ∀ k x, l[k]? = some x → m ≤ k0 + k → ∀ j, j < k0 + k → Nat.testBit x j = true
  | [], _, _, _, _, h => by simp at h
  | y :: l, k0, h, k, x, hk => by
    simp only [fullOk, Bool.and_eq_true] at h
    cases k with
    | zero =>
      simp at hk; subst hk
      intro hm j hj
      have hb : Nat.ble m k0 = true := by simpa using hm
      rw [hb, cond_true] at h
      exact List.all_eq_true.1 h.1 j (List.mem_range.2 (by omega))
    | succ k =>
      intro hm j hj
      exact full_spec l (k0 + 1) h.2 k x (by simpa using hk) (by omega) j (by omega)
/-- from a number on each operation comes after all before it -/
def Full (ops : Array Oper) (m : Nat) : Prop := ∀ k, m ≤ k → k < ops.size → ∀ D, Closed ops D → Pre ops D k → ∀ j, j < k → D j = true
theorem full_of {m : Nat} (h : fullOk m 0 (masks ops.toList []) = true) : Full ops m := by
  intro k hm hk D hD hpre j hj
  have hs := masks_spec (ops := ops) ops.toList [] (fun k => by simp) (fun j m h => by simp at h)
  obtain ⟨x, hx⟩ : ∃ x, (masks ops.toList [])[k]? = some x := ⟨_, List.getElem?_eq_getElem (by rw [hs.1]; simpa using hk)⟩
  exact hs.2 k x hx D hD hpre j (full_spec _ 0 h k x hx (by omega) j (by omega))

theorem plan_any (hpu : PuOk P pu) {w0 : World} {items : List It} {s : St} (hp : planOk nx ops items = true) (hlen : items.length ≤ ops.size) (hfull : Full ops items.length) (hnx : s.nx = nx + ops.size)
    (hv : ∀ i it, items[i]? = some it → ItemOk pu (nx + i) P ops i it (appD nx (fun k => Nat.blt k i) 0 items s)) {Q : Exit → Go.Act → World → Prop} :
    ∀ (fuel : Nat) (listed : Array Bool) (σ : Nat → Option Nat) (a : Go.Act) (w : World), listed.size = ops.size → cnt ops.size listed ≤ fuel → Closed ops (fun k => listed.getD k false) → (∀ k, items.length ≤ k → listed.getD k false = false) →
      Sat w0 σ (appD nx (fun k => listed.getD k false) 0 items s) a w → (∀ k, k < ops.size → listed.getD k false = false → σ (nx + k) = none) →
      (∀ fuel' (listed' : Array Bool) τ a' w', Ext σ τ → listed'.size = ops.size → cnt ops.size listed' ≤ fuel' → (∀ k, listed'.getD k false = Nat.blt k items.length) → Sat w0 τ (appD nx (fun _ => true) 0 items s) a' w' → wpAny P .any ops Q fuel' listed' a' w') → wpAny P .any ops Q fuel listed a w := by
  have hedge : ∀ j o, ops[j]? = some o → ∀ e ∈ o.after, Region.binds .any e = true → e.on < j := by
    intro j o ho e he hb
    simp only [planOk, Bool.and_eq_true] at hp
    have := edges_spec ops.toList 0 hp.1 j o (by simpa using ho) e he hb
    omega
  -- where nothing is ready, all are listed
  have hall : ∀ (listed : Array Bool), listed.size = ops.size → Region.ready .any ops listed = [] → ∀ k, k < ops.size → listed.getD k false = true := by
    intro listed hsz hr k
    induction k using Nat.strongRecOn with
    | _ k ih =>
      intro hk
      cases hl : listed.getD k false with
      | true => rfl
      | false =>
        have : k ∈ Region.ready .any ops listed := by
          rw [mem_ready]
          refine ⟨?_, ops[k], Array.getElem?_eq_getElem hk, fun e he hb => ?_⟩
          · simp only [Array.getD_eq_getD_getElem?] at hl ⊢
            rw [Array.getElem?_eq_getElem (by omega)] at hl ⊢
            simpa using hl
          · have hlt := hedge k _ (Array.getElem?_eq_getElem hk) e he hb
            exact ih e.on hlt (by omega)
        rw [hr] at this; simp at this
  -- where the plan's own are all listed
  have hfin : ∀ fuel (listed : Array Bool) σ a w, listed.size = ops.size → cnt ops.size listed ≤ fuel → (∀ k, items.length ≤ k → listed.getD k false = false) → (∀ k, k < items.length → listed.getD k false = true) → Sat w0 σ (appD nx (fun k => listed.getD k false) 0 items s) a w →
      (∀ fuel' (listed' : Array Bool) τ a' w', Ext σ τ → listed'.size = ops.size → cnt ops.size listed' ≤ fuel' → (∀ k, listed'.getD k false = Nat.blt k items.length) → Sat w0 τ (appD nx (fun _ => true) 0 items s) a' w' → wpAny P .any ops Q fuel' listed' a' w') → wpAny P .any ops Q fuel listed a w := by
    intro fuel listed σ a w hsz hc htl hdone hS hK
    refine hK fuel listed σ a w (Ext.refl _) hsz hc (fun k => ?_) ?_
    · rcases Nat.lt_or_ge k items.length with h | h
      · rw [hdone k h, blt_t.2 h]
      · rw [htl k h]
        cases hb : Nat.blt k items.length with
        | false => rfl
        | true => have := blt_t.1 hb; omega
    have hcong : ∀ (l : List It) (k : Nat) (s : St), k + l.length ≤ items.length → appD nx (fun k => listed.getD k false) k l s = appD nx (fun _ => true) k l s := by
      intro l
      induction l with
      | nil => intros; rfl
      | cons x l ih =>
        intro k s hk
        simp only [List.length_cons] at hk
        simp only [appD]
        rw [hdone k (by omega)]
        exact ih _ _ (by omega)
    rw [← hcong items 0 s (by omega)]
    exact hS
  intro fuel
  induction fuel with
  | zero =>
    intro listed σ a w hsz hc hcl htl hS hfree hK
    refine hfin 0 listed σ a w hsz hc htl (fun k hk => ?_) hS hK
    cases hl : listed.getD k false with
    | true => rfl
    | false =>
      have hpos : 0 < cnt ops.size listed := by
        unfold cnt
        rw [List.countP_pos_iff]
        refine ⟨k, List.mem_range.2 (by omega), ?_⟩
        simp only [Array.getD_eq_getD_getElem?] at hl ⊢
        rw [Array.getElem?_eq_getElem (by omega)] at hl ⊢
        simpa using hl
      omega
  | succ fuel ih =>
    intro listed σ a w hsz hc hcl htl hS hfree hK
    by_cases hdone : ∀ k, k < items.length → listed.getD k false = true
    · exact hfin (fuel + 1) listed σ a w hsz hc htl hdone hS hK
    refine ⟨fun hr => absurd (fun k hk => hall listed hsz hr k (by omega)) hdone, fun i hi => ?_⟩
    rw [mem_ready] at hi
    obtain ⟨h1, o, ho, hpre⟩ := hi
    have hilt : i < ops.size := (Array.getElem?_eq_some_iff.1 ho).1
    have h1' : listed.getD i false = false := by
      simp only [Array.getD_eq_getD_getElem?] at h1 ⊢
      rw [Array.getElem?_eq_getElem (by omega)] at h1 ⊢
      simpa using h1
    have hPre : Pre ops (fun k => listed.getD k false) i := by
      intro o' ho' e he hb
      rw [ho] at ho'; cases ho'
      exact hpre e he hb
    have him : i < items.length := by
      rcases Nat.lt_or_ge i items.length with x | x
      · exact x
      · exact absurd (fun k hk => hfull i x hilt _ hcl hPre k (by omega)) hdone
    obtain ⟨it, hit⟩ : ∃ it, items[i]? = some it := ⟨_, List.getElem?_eq_getElem him⟩
    have hI := plan_item hp hlen hcl hit h1' hPre (hv i it hit)
    have hset : ∀ k, (listed.setIfInBounds i true).getD k false = (listed.getD k false || Nat.beq k i) := by
      intro k
      by_cases hki : k = i
      · subst hki
        simp [Array.getD, hsz, hilt]
      · rw [beq_ne hki, Bool.or_false]
        exact getD_set_ne (i := i) (j := k) false (fun e => hki e.symm)
    refine item_step hpu hS (hfree i hilt h1') (by rw [appD_nx, hnx]; omega) hI (fun τ a' w' hext hoth hS' => ?_)
    have hins := appD_insert (nx := nx) (D := fun k => listed.getD k false) (i := i) (it := it) (l := items) (s := s) h1' hit
      (fun m q d hmi hq hd hqd => by
        have mlt : m < items.length := (List.getElem?_eq_some_iff.1 hq).1
        obtain ⟨o', ho'⟩ : ∃ o', ops[m]? = some o' := ⟨_, Array.getElem?_eq_getElem (by omega)⟩
        rcases Nat.lt_or_gt_of_ne hmi with hlt | hgt
        · exact (plan_pairs hp hlen hlt hq hit ho' ho).1 d hqd hd
        · exact (plan_pairs hp hlen hgt hit hq ho ho').1 d hd hqd)
      (fun m q hq hlt hDm => by
        have mlt : m < items.length := (List.getElem?_eq_some_iff.1 hq).1
        obtain ⟨o', ho'⟩ : ∃ o', ops[m]? = some o' := ⟨_, Array.getElem?_eq_getElem (by omega)⟩
        rcases (plan_pairs hp hlen hlt hit hq ho ho').2 with h | h
        · have := h _ hcl (hcl m hDm); rw [h1'] at this; simp at this
        · exact h.m)
    rw [← hins] at hS'
    have hfun : (fun k => (listed.setIfInBounds i true).getD k false) = fun j => listed.getD j false || Nat.beq j i := funext hset
    refine ih (listed.setIfInBounds i true) τ a' w' (by simp [hsz]) ?_ ?_ (fun k hk => by rw [hset, htl k hk, beq_ne (show k ≠ i by omega)]; rfl) (by rw [hfun]; exact hS') ?_ (fun f' l' τ' a2 w2 e2 => hK f' l' τ' a2 w2 (hext.trans e2))
    · have hcd := countP_drop (p := fun k => !(listed.getD k true)) (q := fun k => !((listed.setIfInBounds i true).getD k true)) (i := i) (by simp [h1]) (by simp [Array.getD, hsz, hilt])
        (fun j hj => by rw [getD_set_ne (i := i) (j := j) true (fun e => hj e.symm)]) (List.range ops.size) List.nodup_range (List.mem_range.2 hilt)
      unfold cnt at hc ⊢
      omega
    · intro j hj o' ho' e he hb
      have hj' : (listed.setIfInBounds i true).getD j false = true := hj
      show (listed.setIfInBounds i true).getD e.on false = true
      rw [hset] at hj'
      rw [hset]
      rcases Bool.or_eq_true_iff.1 hj' with h | h
      · have h9 : listed.getD e.on false = true := hcl j h o' ho' e he hb
        rw [h9]; rfl
      · have := Nat.eq_of_beq_eq_true h
        subst this
        have h9 : listed.getD e.on false = true := hPre o' ho' e he hb
        rw [h9]; rfl
    · intro k hk hl
      rw [hset] at hl
      have h2 : listed.getD k false = false ∧ Nat.beq k i = false := by simpa using hl
      have hki : k ≠ i := fun e => by subst e; simp at h2
      rw [hoth (nx + k) (by omega)]
      exact hfree k hk h2.1

/-- a list's items all carried out, in the text's order -/
def appAll (nx : Nat) : Nat → List It → St → St
  | _, [], s => s
  | k, it :: l, s => appAll nx (k + 1) l (it.app (nx + k) s)
theorem appAll_D : ∀ (l : List It) (k : Nat) (s : St), appD nx (fun _ => true) k l s = appAll nx k l s
  | [], _, _ => rfl
  | it :: l, k, s => by simp only [appD, appAll, cond_true]; exact appAll_D l _ _
theorem appAll_snoc : ∀ (l : List It) (k : Nat) (s : St) (it : It), appAll nx k (l ++ [it]) s = it.app (nx + (k + l.length)) (appAll nx k l s)
  | [], k, s, it => rfl
  | x :: l, k, s, it => by
    simp only [List.cons_append, appAll, List.length_cons]
    rw [appAll_snoc l (k + 1)]
    congr 1; omega
theorem appD_take {i : Nat} : ∀ (l : List It) (k : Nat) (s : St), k ≤ i → appD nx (fun j => Nat.blt j i) k l s = appAll nx k (l.take (i - k)) s
  | [], _, _, _ => by simp [appD, appAll]
  | it :: l, k, s, hk => by
    simp only [appD]
    by_cases hki : k = i
    · subst hki
      have hb : ∀ (l : List It) (m : Nat) (s : St), k ≤ m → appD nx (fun j => Nat.blt j k) m l s = s := by
        intro l
        induction l with
        | nil => intros; rfl
        | cons x l ih =>
          intro m s hm
          have hf : Nat.blt m k = false := by
            cases h : Nat.blt m k with
            | false => rfl
            | true => have := blt_t.1 h; omega
          simp only [appD, hf, cond_false]
          exact ih _ _ (by omega)
      have hf : Nat.blt k k = false := by
        cases h : Nat.blt k k with
        | false => rfl
        | true => have := blt_t.1 h; omega
      rw [hf]
      simp only [cond_false, Nat.sub_self, List.take_zero, appAll]
      exact hb l (k + 1) s (by omega)
    · rw [blt_t.2 (show k < i by omega)]
      have : i - k = (i - (k + 1)) + 1 := by omega
      rw [this, List.take_succ_cons]
      simp only [cond_true, appAll]
      exact appD_take l (k + 1) _ (by omega)

variable {α : Type} {R : α → Prop}

theorem plEff_sat {id0 : Nat} {dst : Option Nat} {s : St} {k : It → Tree α} : ∀ (e : Eff), (plEff pu id0 dst s k e).sat R → ∃ it, it.dst = dst ∧ EffIt pu id0 s it e ∧ (k it).sat R
  | .val x, h => ⟨⟨dst, x, .no⟩, rfl, ⟨rfl, rfl⟩, h⟩
  | .load id row st col n agg, h => by
    simp only [plEff] at h
    cases hb : s.hp id with
    | none => simp [hb, Tree.sat] at h
    | some b =>
      simp only [hb] at h
      cases hl : (Nat.ble 1 n && Nat.ble (row * st + col + n) (lenA b.cs)) with
      | false => simp [hl, Tree.sat] at h
      | true =>
        simp only [hl, cond_true, takeA_eq, dropA_eq, nth_eq] at h
        simp only [Bool.and_eq_true, Nat.ble_eq, lenA_eq] at hl
        cases agg with
        | true =>
          simp only [cond_true] at h
          exact ⟨_, rfl, ⟨b, hb, hl.1, hl.2, rfl, by simp⟩, h⟩
        | false =>
          simp only [cond_false] at h
          have hlt : row * st + col < b.cs.length := by omega
          rw [List.getElem?_eq_getElem hlt] at h
          exact ⟨_, rfl, ⟨b, hb, hl.1, hl.2, rfl, by simp only [Bool.false_eq_true, if_false]; exact List.getElem?_eq_getElem hlt⟩, h⟩
  | .store id row st col vs, h => by
    simp only [plEff] at h
    cases hb : s.hp id with
    | none => simp [hb, Tree.sat] at h
    | some b =>
      simp only [hb] at h
      cases hl : (Nat.ble 1 (lenA vs) && (b.own && Nat.ble (row * st + col + lenA vs) (lenA b.cs))) with
      | false => simp [hl, Tree.sat] at h
      | true =>
        simp only [hl, cond_true] at h
        simp only [Bool.and_eq_true, Nat.ble_eq, lenA_eq] at hl
        exact ⟨_, rfl, ⟨b, hb, hl.2.1, hl.1, hl.2.2, rfl, rfl⟩, h⟩
  | .alloc b mk, h => ⟨⟨dst, mk id0, .al b⟩, rfl, ⟨rfl, rfl⟩, h⟩
  | .app .., h => by simp [plEff, Tree.sat] at h
  | .call f args, h => by
    simp only [plEff] at h
    cases hg : assoc pu f with
    | none => simp [hg, Tree.sat] at h
    | some g =>
      simp only [hg] at h
      cases hx : g args with
      | none => simp [hx, Tree.sat] at h
      | some y =>
        obtain ⟨c, x⟩ := y
        simp only [hx] at h
        cases c with
        | false => simp [Tree.sat] at h
        | true => exact ⟨⟨dst, x, .no⟩, rfl, ⟨g, x, hg, hx, rfl, rfl⟩, by simpa using h⟩
  | .test c e, h => by
    simp only [plEff] at h
    cases c with
    | false => simp [Tree.sat] at h
    | true =>
      obtain ⟨it, h1, h2, h3⟩ := plEff_sat e (by simpa using h)
      exact ⟨it, h1, ⟨rfl, h2⟩, h3⟩
  | .bad, h => by simp [plEff, Tree.sat] at h

theorem put_same {s : St} {d : Nat} {x : AV} (h : s.tm d = x) : s.put (some d) x = s := by
  unfold St.put
  simp only
  have : upd s.tm d x = s.tm := by
    funext j
    by_cases hj : j = d
    · subst hj; rw [upd_same, h]
    · rw [upd_other _ _ hj]
  rw [this]

theorem evPlan_sat {s0 : St} {K : List It → St → Tree α} : ∀ (rest : List Nat) (acc : List It) (s : St), s = appAll nx 0 acc s0 → (∀ k, rest[k]? = if k < rest.length then some (acc.length + k) else none) →
    (∀ i it, acc[i]? = some it → ItemOk pu (nx + i) P ops i it (appAll nx 0 (acc.take i) s0)) → (evPlan P pu nx ops rest acc s K).sat R →
    ∃ items, items.length = acc.length + rest.length ∧ (∀ i it, items[i]? = some it → ItemOk pu (nx + i) P ops i it (appAll nx 0 (items.take i) s0)) ∧ (K items (appAll nx 0 items s0)).sat R
  | [], acc, s, hs, _, hv, h => ⟨acc, rfl, hv, by rw [← hs]; exact h⟩
  | i :: rest, acc, s, hs, hr, hv, h => by
    have hi : i = acc.length := by have := hr 0; simpa using this
    have hr' : ∀ it : It, ∀ k, rest[k]? = if k < rest.length then some ((acc ++ [it]).length + k) else none := by
      intro it k
      have := hr (k + 1)
      simp only [List.getElem?_cons_succ, List.length_cons, Nat.add_lt_add_iff_right] at this
      rw [this]
      split
      · congr 1; simp; omega
      · rfl
    have go : ∀ (it : It), ItemOk pu (nx + i) P ops i it s → (evPlan P pu nx ops rest (acc ++ [it]) (it.app (nx + i) s) K).sat R →
        ∃ items, items.length = acc.length + (i :: rest).length ∧ (∀ i it, items[i]? = some it → ItemOk pu (nx + i) P ops i it (appAll nx 0 (items.take i) s0)) ∧ (K items (appAll nx 0 items s0)).sat R := by
      intro it hit hh
      have hv' : ∀ j q, (acc ++ [it])[j]? = some q → ItemOk pu (nx + j) P ops j q (appAll nx 0 ((acc ++ [it]).take j) s0) := by
        intro j q hj
        rw [List.getElem?_append] at hj
        split at hj
        · rename_i hlt
          rw [List.take_append_of_le_length (by omega)]
          exact hv j q hj
        · rename_i hge
          have hj' : j = acc.length := by
            by_cases h0 : j - acc.length = 0
            · omega
            · have : j - acc.length = (j - acc.length - 1) + 1 := by omega
              rw [this] at hj; simp at hj
          subst hj'
          simp at hj; subst hj
          rw [List.take_left' rfl, ← hs, ← hi]
          exact hit
      obtain ⟨items, h1, h2, h3⟩ := evPlan_sat (s0 := s0) rest (acc ++ [it]) (it.app (nx + i) s) (by rw [appAll_snoc, Nat.zero_add, ← hi, ← hs]) (hr' it) hv' hh
      exact ⟨items, by rw [h1]; simp; omega, h2, h3⟩
    simp only [evPlan] at h
    cases ho : ops[i]? with
    | none => simp [ho, Tree.sat] at h
    | some o =>
      simp only [ho] at h
      cases hd : Nat.ble s.n (o.dst.getD 0) with
      | true => simp [hd, Tree.sat] at h
      | false =>
        simp only [hd, cond_false] at h
        have hd' : o.dst.getD 0 < s.n := by
          rcases Nat.lt_or_ge (o.dst.getD 0) s.n with x | x
          · exact x
          · have : Nat.ble s.n (o.dst.getD 0) = true := by simpa using x
            rw [this] at hd; simp at hd
        have run : ∀ (_ : Runs ops o s), (plEff pu (nx + i) o.dst s (fun it => evPlan P pu nx ops rest (acc ++ [it]) (it.app (nx + i) s) K) (eff P o.op s.eval)).sat R →
            ∃ items, items.length = acc.length + (i :: rest).length ∧ (∀ i it, items[i]? = some it → ItemOk pu (nx + i) P ops i it (appAll nx 0 (items.take i) s0)) ∧ (K items (appAll nx 0 items s0)).sat R := by
          intro hrun hh
          obtain ⟨it, h1, h2, h3⟩ := plEff_sat _ hh
          exact go it ⟨o, ho, h1, hd', .inl ⟨hrun, h2⟩⟩ h3
        have skip : ∀ (_ : Skips ops o s), (evPlan P pu nx ops rest (acc ++ [⟨o.dst, .val undef, .no⟩]) (s.put o.dst (.val undef)) K).sat R →
            ∃ items, items.length = acc.length + (i :: rest).length ∧ (∀ i it, items[i]? = some it → ItemOk pu (nx + i) P ops i it (appAll nx 0 (items.take i) s0)) ∧ (K items (appAll nx 0 items s0)).sat R := by
          intro hsk hh
          exact go ⟨o.dst, .val undef, .no⟩ ⟨o, ho, rfl, hd', .inr ⟨hsk, rfl, rfl⟩⟩ hh
        cases hg : o.guard with
        | none =>
          simp only [hg] at h
          exact run (by simp [Runs, hg]) h
        | some g =>
          obtain ⟨j, want⟩ := g
          simp only [hg] at h
          cases hdst : (ops[j]?).bind (·.dst) with
          | none => simp [hdst, Tree.sat] at h
          | some d =>
            simp only [hdst] at h
            cases hn : Nat.ble s.n d with
            | true => simp [hn, Tree.sat] at h
            | false =>
              simp only [hn, cond_false] at h
              have hlt : d < s.n := by
                rcases Nat.lt_or_ge d s.n with x | x
                · exact x
                · have : Nat.ble s.n d = true := by simpa using x
                  rw [this] at hn; simp at hn
              cases hx : s.tm d with
              | bool b =>
                rw [hx] at h
                simp only at h
                have hrn : b = want → Runs ops o s := fun e => by
                  unfold Runs; rw [hg]; exact ⟨d, hdst, hlt, by rw [hx, e]⟩
                have hsk : b = (!want) → Skips ops o s := fun e => ⟨j, want, d, hg, hdst, hlt, .inl (by rw [hx, e])⟩
                cases b <;> cases want <;> simp only [cond_true, cond_false] at h <;> rw [put_same hx] at h
                · exact run (hrn rfl) h
                · exact skip (hsk rfl) h
                · exact skip (hsk rfl) h
                · exact run (hrn rfl) h
              | val v =>
                rw [hx] at h
                cases v with
                | tuple vs => exact skip ⟨j, want, d, hg, hdst, hlt, .inr ⟨vs, hx⟩⟩ h
                | _ => simp [Tree.sat] at h
              | _ => rw [hx] at h; simp [Tree.sat] at h

theorem tail_any {cT : CallT α} (hc : CTok P cT R) {w0 : World} {m : Nat} (hfull : Full ops m) (hedge : ∀ j o, ops[j]? = some o → ∀ e ∈ o.after, Region.binds .any e = true → e.on < j) {K : St → Tree α} {Q : Exit → Go.Act → World → Prop} :
    ∀ (n i : Nat), i + n = ops.size → m ≤ i → ∀ (fuel : Nat) (listed : Array Bool) (σ : Nat → Option Nat) (s : St) (a : Go.Act) (w : World), listed.size = ops.size → cnt ops.size listed ≤ fuel → (∀ k, listed.getD k false = Nat.blt k i) →
      Sat w0 σ s a w → (evOps P cT ops ((List.range ops.size).drop i) s K).sat R → (∀ τ s' a' w', Ext σ τ → Sat w0 τ s' a' w' → (K s').sat R → Q .normal a' w') → wpAny P .any ops Q fuel listed a w := by
  have hun : ∀ (listed : Array Bool) (k : Nat), k < listed.size → listed.getD k true = listed.getD k false := by
    intro listed k hk
    simp only [Array.getD_eq_getD_getElem?]
    rw [Array.getElem?_eq_getElem hk]; rfl
  intro n
  induction n with
  | zero =>
    intro i hi hm fuel listed σ s a w hsz hcn hl hS h hK
    have hr : Region.ready .any ops listed = [] := by
      cases hrd : Region.ready .any ops listed with
      | nil => rfl
      | cons j rest =>
        have hj : j ∈ Region.ready .any ops listed := by rw [hrd]; simp
        rw [mem_ready] at hj
        obtain ⟨h1, o, ho, _⟩ := hj
        have hjl : j < ops.size := (Array.getElem?_eq_some_iff.1 ho).1
        rw [hun listed j (by omega), hl j, blt_t.2 (by omega)] at h1
        simp at h1
    have hq : Q .normal a w := by
      refine hK σ s a w (Ext.refl _) hS ?_
      rw [List.drop_eq_nil_of_le (by simp; omega)] at h
      exact h
    cases fuel with
    | zero => exact ⟨hr, hq⟩
    | succ fuel => exact ⟨fun _ => hq, fun j hj => by rw [hr] at hj; simp at hj⟩
  | succ n ih =>
    intro i hi hm fuel listed σ s a w hsz hcn hl hS h hK
    have hil : i < ops.size := by omega
    have hui : listed.getD i true = false := by
      rw [hun listed i (by omega), hl i]
      cases hb : Nat.blt i i with
      | false => rfl
      | true => have := blt_t.1 hb; omega
    have hpos : 0 < cnt ops.size listed := by
      unfold cnt
      rw [List.countP_pos_iff]
      exact ⟨i, List.mem_range.2 hil, by simp [hui]⟩
    cases fuel with
    | zero => omega
    | succ fuel =>
      have hcl : Closed ops (fun k => listed.getD k false) := by
        intro j hj o ho e he hb
        have hj' : listed.getD j false = true := hj
        show listed.getD e.on false = true
        rw [hl] at hj' ⊢
        have h1 := blt_t.1 hj'
        have h2 := hedge j o ho e he hb
        exact blt_t.2 (by omega)
      have hmem : i ∈ Region.ready .any ops listed := by
        rw [mem_ready]
        refine ⟨hui, ops[i], Array.getElem?_eq_getElem hil, fun e he hb => ?_⟩
        rw [hl]
        exact blt_t.2 (hedge i _ (Array.getElem?_eq_getElem hil) e he hb)
      refine ⟨fun hr => by rw [hr] at hmem; simp at hmem, fun j hj => ?_⟩
      rw [mem_ready] at hj
      obtain ⟨h1, o, ho, hpre⟩ := hj
      have hjl : j < ops.size := (Array.getElem?_eq_some_iff.1 ho).1
      have hji : j = i := by
        rcases Nat.lt_trichotomy j i with x | x | x
        · rw [hun listed j (by omega), hl j, blt_t.2 x] at h1; simp at h1
        · exact x
        · have := hfull j (by omega) hjl _ hcl (by intro o' ho' e he hb; rw [ho] at ho'; cases ho'; exact hpre e he hb) i x
          have h2 : listed.getD i false = true := this
          rw [← hun listed i (by omega), hui] at h2; simp at h2
      subst hji
      have hdrop : (List.range ops.size).drop j = j :: (List.range ops.size).drop (j + 1) := by
        rw [List.drop_eq_getElem_cons (by simpa using hjl)]
        simp
      rw [hdrop] at h
      refine evOps_step hc hS h fun τ s' a' w' e hS' h' => ?_
      refine ih (j + 1) (by omega) (by omega) fuel (listed.setIfInBounds j true) τ s' a' w' (by simp [hsz]) ?_ ?_ hS' h' (fun τ' s2 a2 w2 e2 => hK τ' s2 a2 w2 (e.trans e2))
      · have hcd := countP_drop (p := fun k => !(listed.getD k true)) (q := fun k => !((listed.setIfInBounds j true).getD k true)) (i := j) (by simp [hui]) (by simp [Array.getD, hsz, hjl])
          (fun k hk => by rw [getD_set_ne (i := j) (j := k) true (fun e => hk e.symm)]) (List.range ops.size) List.nodup_range (List.mem_range.2 hjl)
        unfold cnt at hcn ⊢
        omega
      · intro k
        by_cases hk : k = j
        · subst hk
          rw [blt_t.2 (show k < k + 1 by omega)]
          simp [Array.getD, hsz, hjl]
        · rw [getD_set_ne (i := j) (j := k) false (fun e => hk e.symm), hl k]
          rw [Bool.eq_iff_iff, blt_t, blt_t]; omega

theorem draw_sound {cT : CallT α} (hc : CTok P cT R) (hmix : P.follows .mixedOrders = true) (hpu : PuOk P pu) {w0 : World} {σ : Nat → Option Nat} {s : St} {a : Go.Act} {w : World} {K : St → Tree α} {id : Nat} {ops : Array Oper} (hS : Sat w0 σ s a w)
    (h : (evPlan P pu s.nx ops (List.range (headLen pu ops.toList)) [] { s with nx := s.nx + ops.size } fun items s' =>
      bif planOk s.nx ops items && fullOk (headLen pu ops.toList) 0 (masks ops.toList []) then evOps P cT ops ((List.range ops.size).drop (headLen pu ops.toList)) s' K else .fail).sat R) :
    (Code.region id ops true).wp P (fun e a' w' => e = .normal ∧ ∃ τ s', Ext σ τ ∧ Sat w0 τ s' a' w' ∧ (K s').sat R) a w := by
  have hhl : ∀ l : List Oper, headLen pu l ≤ l.length := by
    intro l
    induction l with
    | nil => exact Nat.le_refl 0
    | cons o l ih =>
      simp only [headLen]
      cases outCall pu o.op with
      | true => simp
      | false => simp only [cond_false, List.length_cons]; omega
  have hm := hhl ops.toList
  rw [Array.length_toList] at hm
  generalize headLen pu ops.toList = m at h hm
  obtain ⟨items, h1, h2, h3⟩ := evPlan_sat (s0 := { s with nx := s.nx + ops.size }) (List.range m) [] _ rfl (fun k => by
    simp only [List.length_range, List.length_nil, Nat.zero_add]
    split
    · rename_i hk; simp [hk]
    · rename_i hk; exact List.getElem?_eq_none (by simp; omega)) (fun i it hi => by simp at hi) h
  have hlen : items.length = m := by rw [h1]; simp
  cases hp : (planOk s.nx ops items && fullOk m 0 (masks ops.toList [])) with
  | false => simp [hp, Tree.sat] at h3
  | true =>
    simp only [hp, cond_true] at h3
    rw [Bool.and_eq_true] at hp
    obtain ⟨hp, hfl⟩ := hp
    have hfull : Full ops m := full_of hfl
    have hedge : ∀ j o, ops[j]? = some o → ∀ e ∈ o.after, Region.binds .any e = true → e.on < j := by
      intro j o ho e he hb
      simp only [planOk, Bool.and_eq_true] at hp
      have := edges_spec ops.toList 0 hp.1 j o (by simpa using ho) e he hb
      omega
    refine wp_region_any hmix ?_
    have hS0 : Sat w0 σ { s with nx := s.nx + ops.size } a { w with drawn := w.drawn + 1 } := by
      refine ⟨⟨hS.h.cell, hS.h.inj, fun i hi => hS.h.fresh i (by simp only at hi; omega), hS.h.bound⟩, hS.tm, hS.n, hS.df, hS.bl.drew⟩
    have hD0 : (fun k => (Array.replicate ops.size false).getD k false) = fun _ => false := by
      funext k
      simp only [Array.getD_eq_getD_getElem?, Array.getElem?_replicate]
      split <;> rfl
    have hnone : ∀ (l : List It) (k : Nat) (s' : St), appD s.nx (fun _ => false) k l s' = s' := by
      intro l
      induction l with
      | nil => intros; rfl
      | cons x l ih => intro k s'; simp only [appD, cond_false]; exact ih _ _
    refine plan_any (w0 := w0) hpu hp (by omega) (by rw [hlen]; exact hfull) (s := { s with nx := s.nx + ops.size }) rfl (fun i it hi => by
      rw [appD_take items 0 _ (Nat.zero_le _)]; exact h2 i it hi) ops.size (Array.replicate ops.size false) σ a _ (by simp) ?_ ?_ (fun k _ => congrFun hD0 k) ?_ ?_ ?_
    · unfold cnt
      exact Nat.le_trans List.countP_le_length (by simp)
    · rw [hD0]; intro j hj; simp at hj
    · rw [hD0, hnone]; exact hS0
    · intro k _ _; exact hS.h.fresh _ (by omega)
    · intro fuel' listed' τ a' w' he hsz hcn hl hS'
      rw [appAll_D] at hS'
      exact tail_any hc hfull hedge (ops.size - m) m (by omega) (Nat.le_refl _) fuel' listed' τ _ a' w' hsz hcn (by rw [← hlen]; exact hl) hS' h3 (fun τ' s' a2 w2 e2 hS2 hk2 => ⟨rfl, τ', s', he.trans e2, hS2, hk2⟩)
end
end Ev
end Go.Proofs.Ytialgmhhkbdegaa
/- That the symbolic evaluator of the text Ea is sound, last part: code, functions. -/
namespace Go.Proofs.Ytialgmhhkbdegaa
open Go.RowKit
namespace Ev
section
variable {P : Program} {α : Type} {cT : CallT α} {R : α → Prop}
theorem sat_bind {β γ : Type} {R : γ → Prop} (t : Tree β) (f : β → Tree γ) : (t.bind f).sat R ↔ t.sat (fun x => (f x).sat R) := by
  induction t with
  | leaf a => rfl
  | need p t ih => simp only [Tree.bind, Tree.sat, ih]
  | br c t e ih1 ih2 =>
    simp only [Tree.bind, Tree.sat]
    cases c with
    | true => simp [ih1]
    | false => simp [ih2]
  | fail => rfl

/-- what is owed for the summary of a loop -/
def LoopOk (P : Program) (c : Code) (f : St → Tree (Exit × St)) : Prop :=
  ∀ (w0 : World) (σ : Nat → Option Nat) (s : St) (a : Go.Act) (w : World) (R : Exit × St → Prop), Sat w0 σ s a w → (f s).sat R →
    (Code.loop c).wp P (fun e a' w' => ∃ τ s', Ext σ τ ∧ Sat w0 τ s' a' w' ∧ R (e, s')) a w
def loopsOf : Code → List Code
  | .seq a b => loopsOf a ++ loopsOf b
  | .cond _ a b => loopsOf a ++ loopsOf b
  | .block _ c => loopsOf c
  | .loop c => c :: loopsOf c
  | _ => []

theorem evC_sound (hmix : P.follows .mixedOrders = true) {pu : List (Nat × PureT)} (hpu : PuOk P pu) (hc : CTok P cT R) {w0 : World} (u : Nat) (L : LoopT) : ∀ (c : Code) (_ : ∀ d ∈ loopsOf c, ∀ f, L (keyOf d) = some f → LoopOk P d f) (σ : Nat → Option Nat) (s : St) (a : Go.Act) (w : World) (K : Exit → St → Tree α),
    Sat w0 σ s a w → (evC P cT pu u L c s K).sat R → c.wp P (fun e a' w' => ∃ τ s', Ext σ τ ∧ Sat w0 τ s' a' w' ∧ (K e s').sat R) a w
  | .skip, _, σ, s, a, w, K, hS, h => wp_skip ⟨σ, s, Ext.refl _, hS, by simpa [evC] using h⟩
  | .region id ops draw, _, σ, s, a, w, K, hS, h => by
    cases draw with
    | true =>
      simp only [evC] at h
      refine wp_mono (draw_sound (K := K .normal) hc hmix hpu hS h) ?_
      rintro e a' w' ⟨rfl, h1⟩
      exact h1
    | false =>
      simp only [evC] at h
      exact wp_region (evOps_sound hc _ σ s a w hS h (fun τ s' a' w' e hS' h' => ⟨τ, s', e, hS', h'⟩))
  | .seq x y, hL, σ, s, a, w, K, hS, h => by
    simp only [evC] at h
    have h1 := evC_sound hmix hpu hc u L x (fun d hd => hL d (by simp [loopsOf, hd])) σ s a w _ hS h
    refine wp_seq (wp_mono h1 ?_)
    rintro e a' w' ⟨τ, s', he, hS', h'⟩
    cases e with
    | normal =>
      have h2 := evC_sound hmix hpu hc u L y (fun d hd => hL d (by simp [loopsOf, hd])) τ s' a' w' K hS' h'
      exact wp_mono h2 fun e a2 w2 ⟨τ2, s2, e2, hS2, h2⟩ => ⟨τ2, s2, he.trans e2, hS2, h2⟩
    | _ => exact ⟨τ, s', he, hS', h'⟩
  | .cond o x y, hL, σ, s, a, w, K, hS, h => by
    simp only [evC] at h
    have hr := hS.eval o
    cases ho : s.eval o with
    | bool b =>
      rw [ho] at hr h
      simp only [Rep] at hr
      have hl : Sat w0 σ (learn o b s) a w := by
        cases o with
        | tmp t =>
          simp only [learn]
          cases Nat.ble s.n t with
          | true => exact hS
          | false => exact hS.learn (by simp only [Go.Act.eval] at hr; rw [hr]; simp only [Rep])
        | _ => exact hS
      cases b with
      | true => exact wp_cond_true hr (evC_sound hmix hpu hc u L x (fun d hd => hL d (by simp [loopsOf, hd])) σ _ a w K hl (by simpa using h))
      | false => exact wp_cond_false hr (evC_sound hmix hpu hc u L y (fun d hd => hL d (by simp [loopsOf, hd])) σ _ a w K hl (by simpa using h))
    | _ => rw [ho] at h; simp [Tree.sat] at h
  | .block id c, hL, σ, s, a, w, K, hS, h => by
    simp only [evC] at h
    have h1 := evC_sound hmix hpu hc u L c (fun d hd => hL d (by simpa [loopsOf] using hd)) σ s a w _ hS h
    refine wp_block (wp_mono h1 ?_)
    rintro e a' w' ⟨τ, s', he, hS', h'⟩
    cases e with
    | exit id' =>
      simp only [Exit.inBlock]
      by_cases hid : id' = id
      · subst hid
        rw [if_pos rfl]
        exact ⟨τ, s', he, hS', by simpa using h'⟩
      · rw [if_neg hid]
        exact ⟨τ, s', he, hS', by simpa [beq_ne hid] using h'⟩
    | _ => exact ⟨τ, s', he, hS', h'⟩
  | .loop c, hL, σ, s, a, w, K, hS, h => by
    simp only [evC] at h
    cases hl : L (keyOf c) with
    | some f =>
      simp only [hl, sat_bind] at h
      have h1 := hL c (by simp [loopsOf]) f hl w0 σ s a w _ hS h
      exact wp_mono h1 fun e a' w' ⟨τ, s', he, hS', h'⟩ => ⟨τ, s', he, hS', h'⟩
    | none =>
      simp only [hl] at h
      have key : ∀ (n : Nat) (σ' : Nat → Option Nat) (s : St) (a : Go.Act) (w : World), Ext σ σ' → Sat w0 σ' s a w → (unroll n (fun s K => evC P cT pu u L c s K) s K).sat R →
          Code.rounds P c (fun e a' w' => ∃ τ s', Ext σ τ ∧ Sat w0 τ s' a' w' ∧ (K e s').sat R) n a w := by
        intro n
        induction n with
        | zero => intro σ' s a w _ _ h; simp [unroll, Tree.sat] at h
        | succ n ih =>
          intro σ' s a w e0 hS h
          simp only [unroll] at h
          rw [rounds_succ]
          have h1 := evC_sound hmix hpu hc u L c (fun d hd => hL d (by simp [loopsOf, hd])) σ' s a w _ hS h
          refine wp_mono h1 ?_
          rintro e a' w' ⟨τ, s', he, hS', h'⟩
          cases e with
          | normal => exact ih τ s' a' w' (e0.trans he) hS' h'
          | _ => exact ⟨τ, s', e0.trans he, hS', h'⟩
      exact wp_loop_rounds u (key u σ s a w (Ext.refl _) hS h)
  | .exit id, _, σ, s, a, w, K, hS, h => wp_exit ⟨σ, s, Ext.refl _, hS, by simpa [evC] using h⟩
  | .ret, _, σ, s, a, w, K, hS, h => wp_ret ⟨σ, s, Ext.refl _, hS, by simpa [evC] using h⟩
  | .rangeFunc .., _, _, _, _, _, _, _, h => by simp [evC, Tree.sat] at h
  | .scope _, _, _, _, _, _, _, _, h => by simp [evC, Tree.sat] at h
  | .label _, _, _, _, _, _, _, _, h => by simp [evC, Tree.sat] at h
  | .goto _, _, _, _, _, _, _, _, h => by simp [evC, Tree.sat] at h
  | .refuse _, _, _, _, _, _, _, _, h => by simp [evC, Tree.sat] at h
end

/-- what is owed for the summary of a function -/
def SpecOk (P : Program) (f : FuncId) (c : Heap → Nat → List AV → Tree (AV × Heap × Nat)) : Prop :=
  ∀ (w0 : World) (σ : Nat → Option Nat) (hp : Heap) (nx : Nat) (w : World) (xs : List AV) (us : List Value) (R : AV × Heap × Nat → Prop),
    HRel w0.heap.size σ hp nx w → Below w0.heap.size w0 w → RepL σ xs us → (c hp nx xs).sat R →
    Calls P f us.toArray w fun e w' => ∃ v x τ hp' nx', e = .returned v ∧ Ext σ τ ∧ HRel w0.heap.size τ hp' nx' w' ∧ Below w0.heap.size w0 w' ∧ Rep τ x v ∧ R (x, hp', nx')

structure CtxOk (X : Ctx) : Prop where
  mix : X.P.follows .mixedOrders = true
  pures : PuOk X.P X.pures
  fns : ∀ p ∈ X.fns, X.P.funcs[p.1]? = some p.2 ∧ (p.2.name == "runtime.NumGoroutine") = false ∧ (∀ c, p.2.body = some c → ∀ d ∈ loopsOf c, ∀ f, assoc2 X.loops p.1 (keyOf d) = some f → LoopOk X.P d f)
  specs : ∀ p ∈ X.specs, Plain X.P p.1 ∧ SpecOk X.P p.1 p.2

theorem frameOf_rep {σ : Nat → Option Nat} : ∀ (xs : List AV) (us : List Value), RepL σ xs us → ∀ (n t : Nat), Rep σ (frameOf xs t) ((us ++ List.replicate n undef)[t]?.getD undef)
  | [], us, h, n, t => by
    simp only [RepL] at h; subst h
    simp only [frameOf, Rep, List.nil_append, List.getElem?_replicate]
    split <;> rfl
  | x :: xs, us, h, n, t => by
    simp only [RepL] at h
    obtain ⟨v, us', rfl, h1, h2⟩ := h
    cases t with
    | zero => simpa [frameOf] using h1
    | succ t => simpa [frameOf] using frameOf_rep xs us' h2 n t

theorem results_rep {P : Program} {w0 : World} {σ : Nat → Option Nat} {s : St} {a : Go.Act} {w : World} (hS : Sat w0 σ s a w) : ∀ (rs : List ResultVar) (l : List AV), resultsA P s rs = some l →
    ∃ vs, (rs.mapM fun r => (match r with | .tmp t => pure (a.tmps.getD t undef) | .cell x t => do loadVar t (← asAddr (a.tmps.getD x undef)) : Sem Value)).run P w = .ok vs w ∧ RepL σ l vs
  | [], l, h => by
    simp [resultsA] at h; subst h
    exact ⟨[], rfl, by simp [RepL]⟩
  | .tmp t :: rs, l, h => by
    simp only [resultsA, Option.map_eq_some_iff] at h
    obtain ⟨l', h1, rfl⟩ := h
    obtain ⟨vs, h2, h3⟩ := results_rep hS rs l' h1
    refine ⟨a.tmps.getD t undef :: vs, ?_, by simp only [RepL]; exact ⟨_, _, rfl, hS.tm t, h3⟩⟩
    simp only [List.mapM_cons, Sem.run_bind, Sem.run_pure, Result.andThen_ok, h2]
  | .cell x t :: rs, l, h => by
    have hx := hS.tm x
    simp only [resultsA] at h
    split at h
    · rename_i id row st col agg n h1 h2 h3
      rw [h1] at hx; simp only [Rep] at hx
      obtain ⟨b, hb1, hb2⟩ := hx
      cases hb : s.hp id with
      | none => simp [hb] at h
      | some blk =>
        obtain ⟨m, vs, k1, k2, k3, k4⟩ := hS.h.cell id blk hb
        rw [hb1] at k1; cases k1
        simp only [hb] at h
        cases agg with
        | true =>
          simp only [cond_true] at h
          cases hl : Nat.ble (row * st + col + n) (lenA blk.cs) with
          | false => simp [hl] at h
          | true =>
            simp only [hl, cond_true, Option.map_eq_some_iff, takeA_eq, dropA_eq] at h
            obtain ⟨l', h4, rfl⟩ := h
            simp only [Nat.ble_eq, lenA_eq] at hl
            obtain ⟨us, h5, h6⟩ := results_rep hS rs l' h4
            refine ⟨.agg ((vs.drop (row * st + col)).take n).toArray :: us, ?_, ?_⟩
            · have := run_loads (P := P) (w := w) (n := n) k2 (by rw [← k3.length]; exact hl)
              have hlv : (loadVar t ⟨b, row * st + col, none⟩).run P w = .ok (.agg ((vs.drop (row * st + col)).take n).toArray) w := by
                simp only [loadVar, Sem.run_bind, Sem.run_pure, Result.andThen_ok, run_agg h2, run_size h3, if_true, this]
              have ha : asAddr (a.tmps.getD x undef) = pure ⟨b, row * st + col, none⟩ := by rw [hb2]; rfl
              simp only [List.mapM_cons, Sem.run_bind, Sem.run_pure, Result.andThen_ok, ha, hlv, h5]
            · simp only [RepL]
              exact ⟨_, _, rfl, by simp only [Rep]; exact ⟨_, (k3.drop _).take _, rfl⟩, h6⟩
        | false =>
          simp only [cond_false, nth_eq] at h
          cases hc : blk.cs[row * st + col]? with
          | none => simp [hc] at h
          | some y =>
            simp only [hc, Option.map_eq_some_iff] at h
            obtain ⟨l', h4, rfl⟩ := h
            obtain ⟨us, h5, h6⟩ := results_rep hS rs l' h4
            obtain ⟨v, hv1, hv2⟩ := k3.get hc
            have hlt : row * st + col < vs.length := (List.getElem?_eq_some_iff.1 hv1).1
            refine ⟨v :: us, ?_, by simp only [RepL]; exact ⟨_, _, rfl, hv2, h6⟩⟩
            have := run_load1 (P := P) (w := w) k2 (show row * st + col + 1 ≤ vs.length by omega)
            simp only [List.getD, hv1, Option.getD_some] at this
            have hlv : (loadVar t ⟨b, row * st + col, none⟩).run P w = .ok v w := by
              simp only [loadVar, Sem.run_bind, Result.andThen_ok, run_agg h2, Bool.false_eq_true, if_false, this]
            have ha : asAddr (a.tmps.getD x undef) = pure ⟨b, row * st + col, none⟩ := by rw [hb2]; rfl
            simp only [List.mapM_cons, Sem.run_bind, Sem.run_pure, Result.andThen_ok, ha, hlv, h5]
    · simp at h

theorem tup_rep {σ : Nat → Option Nat} {l : List AV} {vs : List Value} (h : RepL σ l vs) : Rep σ (tupA l) (if h : vs.toArray.size = 1 then vs.toArray[0] else .tuple vs.toArray) := by
  match l, vs, h with
  | [], vs, h => simp only [RepL] at h; subst h; simp only [tupA, Rep]; exact ⟨[], by simp [RepL], by simp⟩
  | [x], vs, h =>
    simp only [RepL] at h
    obtain ⟨v, us, rfl, h1, rfl⟩ := h
    simpa [tupA] using h1
  | x :: y :: l, vs, h =>
    have hl := h.length
    have : ¬ vs.toArray.size = 1 := by simp at hl ⊢; omega
    rw [dif_neg this]
    simp only [tupA, Rep]
    exact ⟨vs, h, rfl⟩

theorem results_run {P : Program} {w0 : World} {σ : Nat → Option Nat} {s : St} {a : Go.Act} {w : World} (hS : Sat w0 σ s a w) {fn : Func} {l : List AV} (h : resultsA P s fn.results.toList = some l) : ∃ v, (results fn a.tmps).run P w = .ok v w ∧ Rep σ (tupA l) v := by
  obtain ⟨vs, h1, h2⟩ := results_rep hS _ _ h
  refine ⟨_, ?_, tup_rep h2⟩
  unfold results
  rw [Array.mapM_eq_mapM_toList]
  simp only [Sem.run_bind, Sem.run_map, Sem.run_pure]
  have key : ∀ F : ResultVar → Sem Value, (∀ r, F r = (match r with | .tmp t => pure (a.tmps.getD t undef) | .cell x t => do loadVar t (← asAddr (a.tmps.getD x undef)))) → (fn.results.toList.mapM F).run P w = .ok vs w := fun F hF => by
    rw [show F = _ from funext hF]; exact h1
  rw [key _ (fun r => by cases r <;> rfl)]
  rfl

theorem evFn_sound {X : Ctx} (hX : CtxOk X) {α : Type} (R : α → Prop) : ∀ (m : Nat), CTok X.P (evFn (α := α) X m) R
  | 0 => by intro w0 σ hp nx w f xs us K _ _ _ h; simp [evFn, Tree.sat] at h
  | m + 1 => by
    intro w0 σ hp nx w f xs us K hh hb hu h
    simp only [evFn] at h
    cases hpx : (assoc X.pures f).bind (· xs) with
    | some y =>
      obtain ⟨c, x⟩ := y
      simp only [hpx] at h
      cases hg : assoc X.pures f with
      | none => simp [hg] at hpx
      | some g =>
        simp only [hg, Option.bind_some] at hpx
        obtain ⟨h1, h2⟩ := hX.pures _ (assoc_mem hg)
        cases c with
        | false => simp [Tree.sat] at h
        | true =>
          refine ⟨h1.run _ _, (h2 σ w xs us x hu hpx).mono ?_⟩
          rintro e w' ⟨v, rfl, hv, hbl⟩
          exact ⟨v, x, σ, hp, nx, rfl, Ext.refl _, hh.below hbl, hb.trans (hbl.mono hb.size), hv, by simpa using h⟩
    | none =>
    simp only [hpx] at h
    cases hs : assoc X.specs f with
    | some c =>
      simp only [hs, sat_bind] at h
      obtain ⟨h1, h2⟩ := hX.specs _ (assoc_mem hs)
      exact ⟨h1.run _ _, h2 w0 σ hp nx w xs us _ hh hb hu h⟩
    | none =>
      simp only [hs] at h
      cases hf : assoc X.fns f with
      | none => simp [hf, Tree.sat] at h
      | some fn =>
        simp only [hf] at h
        obtain ⟨h1, h2, h3⟩ := hX.fns _ (assoc_mem hf)
        simp only at h1 h2 h3
        cases hbd : fn.body with
        | none => simp [hbd, Tree.sat] at h
        | some c =>
          simp only [hbd] at h
          cases hn : Nat.ble (lenA xs) fn.ntmps with
          | false => simp [hn, Tree.sat] at h
          | true =>
            simp only [hn, cond_true] at h
            simp only [Nat.ble_eq, lenA_eq] at hn
            have hpl : Plain X.P f := ⟨fn, h1, h2, by simp [hbd]⟩
            refine ⟨hpl.run _ _, ?_⟩
            have hlen := hu.length
            have hS : Sat w0 σ { tm := frameOf xs, n := fn.ntmps, hp := hp, nx := nx } { tmps := us.toArray ++ Array.replicate (fn.ntmps - us.toArray.size) undef, defers := [] } w := by
              refine ⟨hh, fun t => ?_, ?_, rfl, hb⟩
              · have := frameOf_rep xs us hu (fn.ntmps - us.toArray.size) t
                have he : (us.toArray ++ Array.replicate (fn.ntmps - us.toArray.size) undef).getD t undef = (us ++ List.replicate (fn.ntmps - us.toArray.size) undef)[t]?.getD undef := by
                  rw [Array.getD_eq_getD_getElem?, ← Array.getElem?_toList]
                  simp
                rw [he]; exact this
              · simp; omega
            have hw := evC_sound hX.mix hX.pures (evFn_sound hX R m) X.u (assoc2 X.loops f) c (fun d hd g hg => h3 c hbd d hd g hg) σ _ _ w _ hS h
            refine calls_of_wp h1 hbd (wp_mono hw ?_)
            rintro e a' w' ⟨τ, s', he, hS', h'⟩
            have fin : (match resultsA X.P s' fn.results.toList with | some l => K (tupA l) s'.hp s'.nx | none => .fail : Tree α).sat R →
                ∃ v, (results fn a'.tmps).run X.P w' = .ok v w' ∧ ∃ v' x τ hp' nx', Ending.returned v = .returned v' ∧ Ext σ τ ∧ HRel w0.heap.size τ hp' nx' w' ∧ Below w0.heap.size w0 w' ∧ Rep τ x v' ∧ (K x hp' nx').sat R := by
              intro hh'
              cases hr : resultsA X.P s' fn.results.toList with
              | none => simp [hr, Tree.sat] at hh'
              | some l =>
                simp only [hr] at hh'
                obtain ⟨v, hv1, hv2⟩ := results_run hS' hr
                exact ⟨v, hv1, v, tupA l, τ, s'.hp, s'.nx, rfl, he, hS'.h, hS'.bl, hv2, hh'⟩
            cases e with
            | normal => exact ⟨hS'.df, fin h'⟩
            | ret => exact ⟨hS'.df, fin h'⟩
            | _ => simp [Tree.sat] at h'
end Ev
end Go.Proofs.Ytialgmhhkbdegaa
/- From the evaluator to contracts: summaries of functions that leave memory alone; calls of laws; what a loop's summary owes. -/
namespace Go.Proofs.Ytialgmhhkbdegaa
open Go.RowKit Go.WideShapes Go.ChangeShapes
namespace Ev

mutual
def closed : AV → Bool
  | .bool _ | .int _ _ | .nilp | .val _ => true
  | .agg cs => closedL cs
  | .tup cs => closedL cs
  | .fn _ a c => closedL a && closedL c
  | _ => false
def closedL : List AV → Bool
  | [] => true
  | x :: xs => closed x && closedL xs
end
mutual
theorem rep_closed {σ τ : Nat → Option Nat} : ∀ (x : AV) (v : Value), closed x = true → Rep σ x v → Rep τ x v
  | .bool _, _, _, h => by simpa only [Rep] using h
  | .int _ _, _, _, h => by simpa only [Rep] using h
  | .nilp, _, _, h => by simpa only [Rep] using h
  | .val _, _, _, h => by simpa only [Rep] using h
  | .agg cs, v, hc, h => by
    simp only [Rep] at h ⊢
    obtain ⟨vs, h1, h2⟩ := h
    exact ⟨vs, repL_closed cs vs (by simpa only [closed] using hc) h1, h2⟩
  | .tup cs, v, hc, h => by
    simp only [Rep] at h ⊢
    obtain ⟨vs, h1, h2⟩ := h
    exact ⟨vs, repL_closed cs vs (by simpa only [closed] using hc) h1, h2⟩
  | .fn f a c, v, hc, h => by
    simp only [closed, Bool.and_eq_true] at hc
    simp only [Rep] at h ⊢
    obtain ⟨x, y, h1, h2, h3⟩ := h
    exact ⟨x, y, repL_closed a x hc.1 h1, repL_closed c y hc.2 h2, h3⟩
  | .ptr _ _ _ _, _, hc, _ => by simp [closed] at hc
  | .sl _ _ _ _ _, _, hc, _ => by simp [closed] at hc
  | .top, _, hc, _ => by simp [closed] at hc
theorem repL_closed {σ τ : Nat → Option Nat} : ∀ (xs : List AV) (vs : List Value), closedL xs = true → RepL σ xs vs → RepL τ xs vs
  | [], _, _, h => by simpa only [RepL] using h
  | x :: xs, vs, hc, h => by
    simp only [closedL, Bool.and_eq_true] at hc
    simp only [RepL] at h ⊢
    obtain ⟨v, us, h1, h2, h3⟩ := h
    exact ⟨v, us, h1, rep_closed x v hc.1 h2, repL_closed xs us hc.2 h3⟩
end
mutual
/-- all numbers of a value are numbers of their kinds -/
def WF : AV → Prop
  | .int k n => inK k n
  | .agg cs => WFL cs
  | .tup cs => WFL cs
  | .fn _ a c => WFL a ∧ WFL c
  | _ => True
def WFL : List AV → Prop
  | [] => True
  | x :: xs => WF x ∧ WFL xs
end
mutual
theorem rep_wf {σ : Nat → Option Nat} : ∀ (x : AV) (v : Value), Rep σ x v → WF x
  | .bool _, _, _ => by simp only [WF]
  | .int _ _, _, h => by simp only [Rep] at h; simp only [WF]; exact h.2
  | .nilp, _, _ => by simp only [WF]
  | .val _, _, _ => by simp only [WF]
  | .agg cs, v, h => by
    simp only [Rep] at h
    obtain ⟨vs, h1, h2⟩ := h
    simp only [WF]; exact repL_wf cs vs h1
  | .tup cs, v, h => by
    simp only [Rep] at h
    obtain ⟨vs, h1, h2⟩ := h
    simp only [WF]; exact repL_wf cs vs h1
  | .fn f a c, v, h => by
    simp only [Rep] at h
    obtain ⟨x, y, h1, h2, h3⟩ := h
    simp only [WF]; exact ⟨repL_wf a x h1, repL_wf c y h2⟩
  | .ptr _ _ _ _, _, _ => by simp only [WF]
  | .sl _ _ _ _ _, _, _ => by simp only [WF]
  | .top, _, _ => by simp only [WF]
theorem repL_wf {σ : Nat → Option Nat} : ∀ (xs : List AV) (vs : List Value), RepL σ xs vs → WFL xs
  | [], _, _ => by simp only [WFL]
  | x :: xs, vs, h => by
    simp only [RepL] at h
    obtain ⟨v, us, h1, h2, h3⟩ := h
    simp only [WFL]; exact ⟨rep_wf x v h2, repL_wf xs us h3⟩
end

def noSig : Nat → Option Nat := fun _ => none
def noHeap : Heap := fun _ => none
theorem hrel_none (B : Nat) (w : World) : HRel B noSig noHeap 0 w :=
  ⟨fun id b h => by simp [noHeap] at h, fun i j n h => by simp [noSig] at h, fun i _ => rfl, fun i n h => by simp [noSig] at h⟩

/-- the result alone, where it names no memory -/
def outK (v : AV) (_ : Heap) (_ : Nat) : Tree AV := bif closed v then .leaf v else .fail

theorem pureOk_of_ev {X : Ctx} (hX : CtxOk X) {f : FuncId} {g : PureT} (m : Nat)
    (h : ∀ xs x, WFL xs → g xs = some (true, x) → closedL xs = true ∧ (evFn X m f xs noHeap 0 outK).sat (fun v => v = x)) : PureOk X.P f g := by
  intro σ w xs us x hu hg
  obtain ⟨h1, h2⟩ := h xs x (repL_wf xs us hu) hg
  obtain ⟨_, hcalls⟩ := evFn_sound hX (fun v => v = x) m w noSig noHeap 0 w f xs us outK (hrel_none _ w) (Below.refl _ w) (repL_closed xs us h1 hu) h2
  refine hcalls.mono ?_
  rintro e w' ⟨v, y, τ, hp', nx', rfl, _, _, hb, hr, hs⟩
  refine ⟨v, rfl, ?_, hb⟩
  simp only [outK] at hs
  cases hc : closed y with
  | false => simp [hc, Tree.sat] at hs
  | true =>
    simp only [hc, cond_true, Tree.sat] at hs
    subst hs
    exact rep_closed y v hc hr

/-- a law's result has to be true -/
def lawK (v : AV) (_ : Heap) (_ : Nat) : Tree Unit :=
  match v with
  | .bool b => bif b then .leaf () else .fail
  | _ => .fail
theorem law_calls {X : Ctx} (hX : CtxOk X) {f : FuncId} (m : Nat) {xs : List AV} {us : List Value} {w : World} (hu : RepL noSig xs us)
    (h : (evFn X m f xs noHeap 0 lawK).sat (fun _ => True)) : Calls X.P f us.toArray w fun e w' => e = .returned (.bool true) ∧ Below w.heap.size w w' := by
  obtain ⟨_, hcalls⟩ := evFn_sound hX (fun _ => True) m w noSig noHeap 0 w f xs us lawK (hrel_none _ w) (Below.refl _ w) hu h
  refine hcalls.mono ?_
  rintro e w' ⟨v, y, τ, hp', nx', rfl, _, _, hb, hr, hs⟩
  cases y with
  | bool b =>
    simp only [lawK] at hs
    cases b with
    | false => simp [Tree.sat] at hs
    | true => simp only [Rep] at hr; subst hr; exact ⟨rfl, hb⟩
  | _ => simp [lawK, Tree.sat] at hs

theorem sat_cond {α : Type} {R : α → Prop} {b : Bool} {s t : Tree α} (h1 : b = true → s.sat R) (h2 : b = false → t.sat R) : (bif b then s else t).sat R := by
  cases b with
  | true => exact h1 rfl
  | false => exact h2 rfl
theorem sat_leaf {α : Type} {R : α → Prop} {a : α} (h : R a) : (Tree.leaf a).sat R := h
theorem sat_eq {α : Type} {R : α → Prop} {s t : Tree α} (e : s = t) (h : t.sat R) : s.sat R := e ▸ h

theorem puOk_nil {P : Program} : PuOk P [] := fun p hp => by simp at hp
theorem puOk_cons {P : Program} {f : FuncId} {g : PureT} {l : List (Nat × PureT)} (h1 : Plain P f) (h2 : PureOk P f g) (h : PuOk P l) : PuOk P ((f, g) :: l) := by
  intro p hp
  rcases List.mem_cons.1 hp with rfl | hp
  · exact ⟨h1, h2⟩
  · exact h p hp
/-- a function of the program, by its number -/
def FnIs (P : Program) (p : Nat × Func) : Prop := P.funcs[p.1]? = some p.2 ∧ (p.2.name == "runtime.NumGoroutine") = false ∧ p.2.body.isSome = true
theorem FnIs.plain {P : Program} {f : Nat} {fn : Func} (h : FnIs P (f, fn)) : Plain P f := ⟨fn, h.1, h.2.1, h.2.2⟩
theorem fns_nil {P : Program} : ∀ p ∈ ([] : List (Nat × Func)), FnIs P p := fun p hp => by simp at hp
theorem fns_cons {P : Program} {f : Nat} {fn : Func} {l : List (Nat × Func)} (h1 : FnIs P (f, fn)) (h : ∀ p ∈ l, FnIs P p) : ∀ p ∈ (f, fn) :: l, FnIs P p := by
  intro p hp
  rcases List.mem_cons.1 hp with rfl | hp
  · exact h1
  · exact h p hp
/-- a context without loops' summaries -/
def ctx (P : Program) (pu : List (Nat × PureT)) (fns : List (Nat × Func)) : Ctx := { P := P, u := 64, fns := fns, loops := [], pures := pu, specs := [] }
theorem ctx_ok {P : Program} (hm : P.follows .mixedOrders = true) {pu : List (Nat × PureT)} {fns : List (Nat × Func)} (hp : PuOk P pu) (hf : ∀ p ∈ fns, FnIs P p) : CtxOk (ctx P pu fns) :=
  ⟨hm, hp, fun p h => ⟨(hf p h).1, (hf p h).2.1, fun _ _ _ _ _ h => by simp [ctx, assoc2] at h⟩, fun p h => by simp [ctx] at h⟩

/-- a number of the kind is left as it is -/
theorem wrap_id {n : Int} (h1 : -9223372036854775808 ≤ n) (h2 : n ≤ 9223372036854775807) : IntKind.i64.wrap n = n := by
  unfold IntKind.wrap
  simp [IntKind.bits, IntKind.signed]
  split <;> omega
theorem in64 {n : Int} (h : inK .i64 n) : -9223372036854775808 ≤ n ∧ n ≤ 9223372036854775807 := h

section
variable {H : Type} {enc : TypeId × Value → H} {P : Program}
/-- the end of a law's proof: the call made blocks of its own, and turned nothing that was there -/
theorem post_law {f : Func} {s : ChangeSpec} {apart fresh handsOn again : Bool} {W W' : World} {args : Array Value} {v : Value} {ds gs : List (DataW H)} {before pa pv : List MemPlace}
    (hW : DataW.Whole enc P f.params.toList s.vars apart W args.toList ds gs before)
    (hres : ∀ (b : Nat) (sp : Nat → Bool) (hd : Bool), DataW.TrodAll enc P W' b sp hd f.resultTypes.toList (v.resultList f.resultTypes.size) (s.fn H (ds ++ gs)).results [])
    (hargs : ∀ sp : Nat → Bool, (∀ p ∈ before, sp p.block = true) → DataW.TrodAll enc P W' 0 sp true f.params.toList args.toList (s.fn H (ds ++ gs)).args pa)
    (hvars : ∀ sp : Nat → Bool, (∀ p ∈ before, sp p.block = true) → DataW.TrodVars enc P W' sp s.vars (s.fn H (ds ++ gs)).vars pv)
    (hps : before = pa ++ pv) (hb : Below W.heap.size W W')
    (hok : ∀ (j : Nat) (t : TypeId) (r : Value), f.resultTypes[j]? = some t → (v.resultList f.resultTypes.size)[j]? = some r → Value.okWide P W' .any 0 t r) :
    s.post enc P f apart fresh handsOn again W args v W' := by
  have hlt : ∀ p ∈ before, p.block < W.heap.size := fun p hp => hW.lt p hp
  have hold : ∀ p ∈ before, (fun b => decide (b < W.heap.size)) p.block = true := fun p hp => by simpa using hlt p hp
  refine ⟨ds, gs, before, [], pa, pv, hW, hres _ _ _, hargs _ hold, hvars _ hold, World.keptBut_mono (fun p hp => ⟨hp, ?_⟩) (hb.frame (· ∈ before)), fun _ => ?_⟩
  · rw [hps, List.mem_append] at hp
    exact Or.inr hp
  · obtain ⟨_, _, _, _, _, hz, hn⟩ := hW
    refine ⟨hok, _, _, ([] ++ pa) ++ pv, ⟨[] ++ pa, pv, trodAll_append (hargs _ (fun _ _ => rfl)) (hres _ _ _), hvars _ (fun _ _ => rfl), rfl, ?_, ?_⟩, ?_⟩
    · intro b off hp
      have hin : MemPlace.cell b off ∈ before := by rw [hps]; simpa using hp
      rw [hb.frozen (hlt _ hin)]
      exact hz b off hin
    · intro ha
      have := hn ha
      rw [hps] at this
      simpa using this
    · intro p hp _
      rw [hps]
      simpa using hp
end
end Ev
end Go.Proofs.Ytialgmhhkbdegaa
/- From the evaluator to contracts: what a loop's summary owes, shown by one walk through its body. -/
namespace Go.Proofs.Ytialgmhhkbdegaa
open Go.RowKit
namespace Ev

mutual
/-- a value names blocks below a number alone -/
def bd (n : Nat) : AV → Bool
  | .ptr id _ _ _ => Nat.blt id n
  | .sl id _ _ _ _ => Nat.blt id n
  | .agg cs => bdL n cs
  | .tup cs => bdL n cs
  | .fn _ a c => bdL n a && bdL n c
  | _ => true
def bdL (n : Nat) : List AV → Bool
  | [] => true
  | x :: xs => bd n x && bdL n xs
end
/-- the numbers of blocks below n -/
def cutSig (n : Nat) (σ : Nat → Option Nat) : Nat → Option Nat := fun i => if i < n then σ i else none
mutual
theorem rep_cut {n : Nat} {σ : Nat → Option Nat} : ∀ (x : AV) (v : Value), bd n x = true → Rep σ x v → Rep (cutSig n σ) x v
  | .bool _, _, _, h => by simpa only [Rep] using h
  | .int _ _, _, _, h => by simpa only [Rep] using h
  | .nilp, _, _, h => by simpa only [Rep] using h
  | .val _, _, _, h => by simpa only [Rep] using h
  | .top, _, _, _ => by simp only [Rep]
  | .ptr id row st col, v, hb, h => by
    simp only [Rep] at h ⊢
    obtain ⟨b, h1, h2⟩ := h
    refine ⟨b, ?_, h2⟩
    unfold cutSig
    rw [if_pos (blt_t.1 (by simpa only [bd] using hb))]
    exact h1
  | .sl id row st len cap, v, hb, h => by
    simp only [Rep] at h ⊢
    obtain ⟨k1, k2, b, h1, h2⟩ := h
    refine ⟨k1, k2, b, ?_, h2⟩
    unfold cutSig
    rw [if_pos (blt_t.1 (by simpa only [bd] using hb))]
    exact h1
  | .agg cs, v, hb, h => by
    simp only [Rep] at h ⊢
    obtain ⟨vs, h1, h2⟩ := h
    exact ⟨vs, repL_cut cs vs (by simpa only [bd] using hb) h1, h2⟩
  | .tup cs, v, hb, h => by
    simp only [Rep] at h ⊢
    obtain ⟨vs, h1, h2⟩ := h
    exact ⟨vs, repL_cut cs vs (by simpa only [bd] using hb) h1, h2⟩
  | .fn f a c, v, hb, h => by
    simp only [bd, Bool.and_eq_true] at hb
    simp only [Rep] at h ⊢
    obtain ⟨x, y, h1, h2, h3⟩ := h
    exact ⟨x, y, repL_cut a x hb.1 h1, repL_cut c y hb.2 h2, h3⟩
theorem repL_cut {n : Nat} {σ : Nat → Option Nat} : ∀ (xs : List AV) (vs : List Value), bdL n xs = true → RepL σ xs vs → RepL (cutSig n σ) xs vs
  | [], _, _, h => by simpa only [RepL] using h
  | x :: xs, vs, hb, h => by
    simp only [bdL, Bool.and_eq_true] at hb
    simp only [RepL] at h ⊢
    obtain ⟨v, us, h1, h2, h3⟩ := h
    exact ⟨v, us, h1, rep_cut x v hb.1 h2, repL_cut xs us hb.2 h3⟩
end

/-- the slots and the blocks that live at a loop's head, and the frame's size, and the next block's number there -/
structure Lv where
  keys : List Nat
  ids : List Nat
  n : Nat
  nx : Nat
abbrev Snap := List AV × List (Option Blk)
def snap (lv : Lv) (s : St) : Snap := (lv.keys.map s.tm, lv.ids.map s.hp)
def tmOf : List Nat → List AV → Nat → AV
  | k :: ks, x :: xs, i => bif Nat.beq i k then x else tmOf ks xs i
  | _, _, _ => .top
def hpOf : List Nat → List (Option Blk) → Nat → Option Blk
  | k :: ks, x :: xs, i => bif Nat.beq i k then x else hpOf ks xs i
  | _, _, _ => none
def ofSnap (lv : Lv) (v : Snap) : St := { tm := tmOf lv.keys v.1, n := lv.n, hp := hpOf lv.ids v.2, nx := lv.nx }
def blkBd (n : Nat) : Option Blk → Bool
  | some b => bdL n b.cs
  | none => true
/-- what lives names blocks below the next number alone -/
def snapBd (lv : Lv) (v : Snap) : Bool := bdL lv.nx v.1 && (v.2.all (blkBd lv.nx) && lv.ids.all (fun i => Nat.blt i lv.nx))

theorem bdL_get {n : Nat} : ∀ {xs : List AV} {i : Nat} {x : AV}, bdL n xs = true → xs[i]? = some x → bd n x = true
  | [], _, _, _, h => by simp at h
  | y :: ys, 0, x, hb, h => by simp [bdL] at hb; simp at h; subst h; exact hb.1
  | y :: ys, i + 1, x, hb, h => by simp [bdL] at hb; exact bdL_get (xs := ys) hb.2 (by simpa using h)

theorem tmOf_snap (tm : Nat → AV) : ∀ (keys : List Nat) (i : Nat), tmOf keys (keys.map tm) i = .top ∨ (tmOf keys (keys.map tm) i = tm i ∧ ∃ j : Nat, (keys.map tm)[j]? = some (tm i))
  | [], _ => .inl rfl
  | k :: ks, i => by
    simp only [List.map_cons, tmOf]
    by_cases h : i = k
    · subst h
      right
      exact ⟨by simp, 0, rfl⟩
    · rw [beq_ne h, cond_false]
      rcases tmOf_snap tm ks i with h1 | ⟨h1, j, h2⟩
      · exact .inl h1
      · exact .inr ⟨h1, j + 1, by simpa using h2⟩
theorem hpOf_snap (hp : Heap) : ∀ (ids : List Nat) (i : Nat) (b : Blk), hpOf ids (ids.map hp) i = some b → hp i = some b ∧ i ∈ ids
  | [], _, _, h => by simp [hpOf] at h
  | k :: ks, i, b, h => by
    simp only [List.map_cons, hpOf] at h
    by_cases hk : i = k
    · subst hk
      simp at h
      exact ⟨h, by simp⟩
    · rw [beq_ne hk, cond_false] at h
      obtain ⟨h1, h2⟩ := hpOf_snap hp ks i b h
      exact ⟨h1, by simp [h2]⟩

/-- what does not live is forgotten -/
theorem Sat.forget {w0 : World} {σ : Nat → Option Nat} {s : St} {a : Go.Act} {w : World} (h : Sat w0 σ s a w) (lv : Lv) (hn : s.n = lv.n) (hb : snapBd lv (snap lv s) = true) : Sat w0 (cutSig lv.nx σ) (ofSnap lv (snap lv s)) a w := by
  simp only [snapBd, snap, Bool.and_eq_true] at hb
  obtain ⟨hb1, hb2, hb3⟩ := hb
  refine ⟨⟨?_, ?_, ?_, ?_⟩, fun t => ?_, h.n.trans hn, h.df, h.bl⟩
  · intro id b hid
    obtain ⟨h1, h2⟩ := hpOf_snap s.hp lv.ids id b hid
    obtain ⟨n, vs, k1, k2, k3, k4⟩ := h.h.cell id b h1
    have hlt := blt_t.1 (List.all_eq_true.1 hb3 id h2)
    have hbb : blkBd lv.nx (s.hp id) = true := List.all_eq_true.1 hb2 _ (List.mem_map.2 ⟨id, h2, rfl⟩)
    rw [h1] at hbb
    refine ⟨n, vs, ?_, k2, repL_cut _ _ hbb k3, k4⟩
    unfold cutSig; rw [if_pos hlt]; exact k1
  · intro i j n hi hj
    unfold cutSig at hi hj
    split at hi
    · split at hj
      · exact h.h.inj i j n hi hj
      · simp at hj
    · simp at hi
  · intro i hi
    show cutSig lv.nx σ i = none
    unfold cutSig; rw [if_neg]; simp only [ofSnap] at hi; omega
  · intro i n hi
    unfold cutSig at hi
    split at hi
    · exact h.h.bound i n hi
    · simp at hi
  · show Rep _ (tmOf lv.keys (lv.keys.map s.tm) t) _
    rcases tmOf_snap s.tm lv.keys t with h1 | ⟨h1, j, h2⟩
    · rw [h1]; simp only [Rep]
    · rw [h1]
      exact rep_cut _ _ (bdL_get hb1 h2) (h.tm t)
theorem cutSig_ext {n : Nat} {σ τ : Nat → Option Nat} (h : Ext σ τ) (hf : ∀ i, n ≤ i → σ i = none) : Ext σ (cutSig n τ) := by
  intro i b hi
  unfold cutSig
  rw [if_pos]
  · exact h i b hi
  · rcases Nat.lt_or_ge i n with x | x
    · exact x
    · rw [hf i x] at hi; simp at hi


def Tree.map {α β : Type} (f : α → β) : Tree α → Tree β
  | .leaf a => .leaf (f a)
  | .need p t => .need p (t.map f)
  | .br c t e => .br c (t.map f) (e.map f)
  | .fail => .fail
theorem sat_map {α β : Type} {R : β → Prop} (f : α → β) (t : Tree α) : (t.map f).sat R ↔ t.sat (fun x => R (f x)) := by
  induction t with
  | leaf a => rfl
  | need p t ih => simp only [Tree.map, Tree.sat, ih]
  | br c t e ih1 ih2 => simp only [Tree.map, Tree.sat, ih1, ih2]
  | fail => rfl
/-- the summary of a loop: where it begins in a snapshot that is known, it ends in one of some -/
def loopSum {Γ : Type} (lv : Lv) (entry : Snap → Option Γ) (fin : Γ → Tree (Exit × Snap)) (s : St) : Tree (Exit × St) :=
  bif Nat.beq s.n lv.n && Nat.beq s.nx lv.nx then
    match entry (snap lv s) with
    | some g => (fin g).map fun r => (r.1, ofSnap lv r.2)
    | none => .fail
  else .fail

theorem loopOk_of {X : Ctx} (hX : CtxOk X) (m : Nat) (L : LoopT) {c : Code} (hL : ∀ d ∈ loopsOf c, ∀ f, L (keyOf d) = some f → LoopOk X.P d f) {Γ : Type} (lv : Lv) (entry : Snap → Option Γ) (fin : Γ → Tree (Exit × Snap)) (at_ : Γ → Snap) (Inv : Γ → Prop) (μ : Γ → Nat)
    (hent : ∀ v g, entry v = some g → v = at_ g) (hbd : ∀ g, Inv g → snapBd lv (at_ g) = true) (hinv : ∀ g R, (fin g).sat R → WFL (at_ g).1 → Inv g)
    (hbody : ∀ g, Inv g → WFL (at_ g).1 → (evC X.P (evFn X m) X.pures X.u L c (ofSnap lv (at_ g)) (fun e s' => .leaf (e, Nat.beq s'.n lv.n && snapBd lv (snap lv s'), snap lv s'))).sat (fun r => r.2.1 = true ∧ match r.1 with
      | .normal => ∃ g', r.2.2 = at_ g' ∧ (WFL (at_ g').1 → Inv g' ∧ μ g' < μ g ∧ ∀ R, (fin g).sat R → (fin g').sat R)
      | e => WFL r.2.2.1 → ∀ R, (fin g).sat R → R (e, r.2.2))) :
    LoopOk X.P c (loopSum lv entry fin) := by
  intro w0 σ s a w R hS h
  simp only [loopSum] at h
  cases hc : (Nat.beq s.n lv.n && Nat.beq s.nx lv.nx) with
  | false => simp [hc, Tree.sat] at h
  | true =>
    simp only [hc, cond_true] at h
    simp only [Bool.and_eq_true, Nat.beq_eq] at hc
    obtain ⟨hn, hnx⟩ := hc
    cases he : entry (snap lv s) with
    | none => simp [he, Tree.sat] at h
    | some g =>
      simp only [he, sat_map] at h
      have hsn := hent _ _ he
      have hsz : ∀ i, lv.nx ≤ i → σ i = none := fun i hi => hS.h.fresh i (by omega)
      have wfOf : ∀ (lv : Lv) (σ : Nat → Option Nat) (s : St) (a : Go.Act) (w : World), Sat w0 σ s a w → WFL (snap lv s).1 := by
        intro lv σ s a w hS
        show WFL (lv.keys.map s.tm)
        induction lv.keys with
        | nil => simp only [List.map_nil, WFL]
        | cons k ks ih => simp only [List.map_cons, WFL]; exact ⟨rep_wf _ _ (hS.tm k), ih⟩
      have key : ∀ (n : Nat) (g : Γ) (σ' : Nat → Option Nat) (a : Go.Act) (w : World), μ g < n → Inv g → WFL (at_ g).1 → Ext σ σ' → Sat w0 σ' (ofSnap lv (at_ g)) a w → (fin g).sat (fun r => R (r.1, ofSnap lv r.2)) →
          Code.rounds X.P c (fun e a' w' => ∃ τ s', Ext σ τ ∧ Sat w0 τ s' a' w' ∧ R (e, s')) n a w := by
        intro n
        induction n with
        | zero => intro g _ _ _ h; omega
        | succ n ih =>
          intro g σ' a w hlt hI hwf hext hSg hfin
          rw [rounds_succ]
          have hw := evC_sound (α := Exit × Bool × Snap) hX.mix hX.pures (evFn_sound hX _ m) X.u L c hL σ' _ a w _ hSg (hbody g hI hwf)
          refine wp_mono hw ?_
          rintro e a' w' ⟨τ, s', hext', hS', hflag, hcase⟩
          simp only [Bool.and_eq_true, Nat.beq_eq] at hflag
          have hF := hS'.forget lv hflag.1 hflag.2
          have hwf' := wfOf lv τ s' a' w' hS'
          have hex : Ext σ (cutSig lv.nx τ) := cutSig_ext (hext.trans hext') hsz
          cases e with
          | normal =>
            obtain ⟨g', hg', hrest⟩ := hcase
            simp only at hg'
            rw [hg'] at hF hwf'
            obtain ⟨k1, k2, k3⟩ := hrest hwf'
            exact ih g' _ a' w' (by omega) k1 hwf' hex hF (k3 _ hfin)
          | exit id => exact ⟨_, _, hex, hF, hcase hwf' _ hfin⟩
          | goto l => exact ⟨_, _, hex, hF, hcase hwf' _ hfin⟩
          | ret => exact ⟨_, _, hex, hF, hcase hwf' _ hfin⟩
          | panic ch => exact ⟨_, _, hex, hF, hcase hwf' _ hfin⟩
          | outgrown => exact ⟨_, _, hex, hF, hcase hwf' _ hfin⟩
      have hwf0 := wfOf lv σ s a w hS
      rw [hsn] at hwf0
      have hI := hinv g _ h hwf0
      have hb := hbd g hI
      rw [← hsn] at hb
      have hF := hS.forget lv hn hb
      rw [hsn] at hF
      exact wp_loop_rounds (μ g + 1) (key (μ g + 1) g _ a w (by omega) hI hwf0 (cutSig_ext (Ext.refl σ) hsz) hF h)

def bodyOf (f : Func) : Code := match f.body with | some c => c | none => .skip
/-- a context with loops' summaries -/
def ctxL (P : Program) (pu : List (Nat × PureT)) (fns : List (Nat × Func)) (loops : List ((Nat × Nat) × (St → Tree (Exit × St)))) : Ctx := { P := P, u := 64, fns := fns, loops := loops, pures := pu, specs := [] }
theorem ctxL_ok {P : Program} (hm : P.follows .mixedOrders = true) {pu : List (Nat × PureT)} {fns : List (Nat × Func)} {loops : List ((Nat × Nat) × (St → Tree (Exit × St)))} (hp : PuOk P pu) (hf : ∀ p ∈ fns, FnIs P p)
    (hl : ∀ p ∈ fns, ∀ d ∈ loopsOf (bodyOf p.2), ∀ g, assoc2 loops p.1 (keyOf d) = some g → LoopOk P d g) : CtxOk (ctxL P pu fns loops) :=
  ⟨hm, hp, fun p h => ⟨(hf p h).1, (hf p h).2.1, fun c hc d hd f hfd => hl p h d (by unfold bodyOf; rw [hc]; exact hd) f hfd⟩, fun p h => by simp [ctxL] at h⟩
theorem loops_one {P : Program} {f : Nat} {fn : Func} {lb : Code} {sum : St → Tree (Exit × St)} (h1 : loopsOf (bodyOf fn) = [lb]) (h2 : LoopOk P lb sum) :
    ∀ p ∈ [(f, fn)], ∀ d ∈ loopsOf (bodyOf p.2), ∀ g, assoc2 [((f, keyOf lb), sum)] p.1 (keyOf d) = some g → LoopOk P d g := by
  intro p hp d hd g hg
  simp only [List.mem_singleton] at hp
  subst hp
  simp only at hd hg
  rw [h1, List.mem_singleton] at hd
  subst hd
  simp [assoc2] at hg
  subst hg
  exact h2
end Ev
end Go.Proofs.Ytialgmhhkbdegaa
/- The arguments of a law that are flat data (integers, bools, structs and arrays of these): what their values look like, and that they read alike in every memory. -/
namespace Go.Proofs.Ytialgmhhkbdegaa
open Go.RowKit Go.WideShapes Go.ChangeShapes
namespace Ev

inductive CK where
  | b
  | i (k : IntKind)
def CKok : List CK → List Value → Prop
  | [], us => us = []
  | .b :: ks, us => ∃ x vs, us = .bool x :: vs ∧ CKok ks vs
  | .i k :: ks, us => ∃ n vs, us = .int k n :: vs ∧ inK k n ∧ CKok ks vs
theorem CKok.append : ∀ {ks ls : List CK} {us vs : List Value}, CKok ks us → CKok ls vs → CKok (ks ++ ls) (us ++ vs)
  | [], _, us, vs, h, k => by simp only [CKok] at h; subst h; exact k
  | .b :: ks, ls, us, vs, h, k => by
    simp only [CKok] at h
    obtain ⟨x, us', rfl, h'⟩ := h
    simp only [List.cons_append, CKok]
    exact ⟨x, us' ++ vs, rfl, CKok.append h' k⟩
  | .i q :: ks, ls, us, vs, h, k => by
    simp only [CKok] at h
    obtain ⟨n, us', rfl, hn, h'⟩ := h
    simp only [List.cons_append, CKok]
    exact ⟨n, us' ++ vs, rfl, hn, CKok.append h' k⟩

def flatF (P : Program) (fk : TypeId → Option (List CK)) : List Field → Nat → Option (List CK)
  | [], _ => some []
  | f :: fs, off => match fk f.type, flatF P fk fs (off + P.cellsOf f.type) with
    | some a, some r => bif Nat.beq f.offset off && Nat.beq a.length (P.cellsOf f.type) then some (a ++ r) else none
    | _, _ => none
def flatK (P : Program) : Nat → TypeId → Option (List CK)
  | 0, _ => none
  | d + 1, t => match P.underlying t with
    | some .bool => some [.b]
    | some (.int k) => some [.i k]
    | some (.struct fs) => match flatF P (flatK P d) fs.toList 0 with
      | some r => bif Nat.beq r.length (P.cellsOf t) then some r else none
      | none => none
    | _ => none

theorem wf_in {k : IntKind} {n : Int} (h : (Lit.int k n).wf = true) : inK k n := by
  cases k <;> simp [Lit.wf, IntKind.min, IntKind.max, IntKind.signed, IntKind.bits] at h <;> simp only [inK, minK, maxK] <;> omega

theorem repL_consI {σ : Nat → Option Nat} {x : AV} {xs : List AV} {v : Value} {vs : List Value} : RepL σ (x :: xs) (v :: vs) ↔ Rep σ x v ∧ RepL σ xs vs := by
  simp only [RepL]
  constructor
  · rintro ⟨v', vs', h, h1, h2⟩
    simp only [List.cons.injEq] at h
    obtain ⟨rfl, rfl⟩ := h
    exact ⟨h1, h2⟩
  · rintro ⟨h1, h2⟩
    exact ⟨v, vs, rfl, h1, h2⟩
theorem repL_nilI {σ : Nat → Option Nat} : RepL σ [] [] ↔ True := by simp only [RepL]
theorem rep_intI {σ : Nat → Option Nat} {k : IntKind} {n : Int} : Rep σ (.int k n) (.int k n) ↔ inK k n := by simp only [Rep, true_and]
theorem rep_boolI {σ : Nat → Option Nat} {b : Bool} : Rep σ (.bool b) (.bool b) ↔ True := by simp only [Rep]
theorem rep_aggI {σ : Nat → Option Nat} {xs : List AV} {vs : List Value} : Rep σ (.agg xs) (.agg vs.toArray) ↔ RepL σ xs vs := by
  simp only [Rep]
  constructor
  · rintro ⟨ws, h, h1⟩
    have : vs = ws := by have := congrArg (fun v => match v with | .agg a => a.toList | _ => []) h1; simpa using this
    rw [this]; exact h
  · intro h; exact ⟨vs, h, rfl⟩

section
variable {H : Type} {enc : TypeId × Value → H} {P : Program}

/-- flat data hang on no memory, and hold numbers of their kinds -/
def FlatAt (enc : TypeId × Value → H) (P : Program) (ks : List CK) (t : TypeId) : Prop :=
  ∀ (w : World) (base : Nat) (spare : Nat → Bool) (held : Bool) (fuel : Nat) (cs : List Value) (d : DataW H) (ps : List MemPlace), DataW.trod enc P w base spare held fuel t cs = some (d, ps) →
    ps = [] ∧ CKok ks cs ∧ ∀ (w' : World) (base' : Nat) (spare' : Nat → Bool) (held' : Bool), DataW.trod enc P w' base' spare' held' fuel t cs = some (d, ps)

theorem mapM_some_cons {α β : Type} {f : α → Option β} {a : α} {l : List α} {r : List β} (h : (a :: l).mapM f = some r) : ∃ y ys, f a = some y ∧ l.mapM f = some ys ∧ r = y :: ys := by
  simp only [List.mapM_cons, Option.bind_eq_bind, Option.pure_def] at h
  cases h1 : f a with
  | none => simp [h1] at h
  | some y =>
    cases h2 : l.mapM f with
    | none => simp [h1, h2] at h
    | some ys => simp [h1, h2] at h; exact ⟨y, ys, rfl, rfl, h.symm⟩

theorem flatF_at {fk : TypeId → Option (List CK)} (hk : ∀ t ks, fk t = some ks → FlatAt enc P ks t) {cs : List Value} {w : World} {base : Nat} {spare : Nat → Bool} {held : Bool} {fuel : Nat} :
    ∀ (fs : List Field) (off : Nat) (ks : List CK) (ys : List (DataW H × List MemPlace)), flatF P fk fs off = some ks →
      fs.mapM (fun f => DataW.trod enc P w base spare held fuel f.type ((cs.drop f.offset).take (P.cellsOf f.type))) = some ys →
      off + ks.length ≤ cs.length →
      (ys.flatMap (·.2) = []) ∧ CKok ks ((cs.drop off).take ks.length) ∧ ∀ (w' : World) (base' : Nat) (spare' : Nat → Bool) (held' : Bool), fs.mapM (fun f => DataW.trod enc P w' base' spare' held' fuel f.type ((cs.drop f.offset).take (P.cellsOf f.type))) = some ys
  | [], off, ks, ys, h, hy, _ => by
    simp [flatF] at h; subst h
    simp at hy; subst hy
    exact ⟨rfl, by simp [CKok], fun _ _ _ _ => rfl⟩
  | f :: fs, off, ks, ys, h, hy, hl => by
    simp only [flatF] at h
    cases ha : fk f.type with
    | none => simp [ha] at h
    | some a =>
      cases hr : flatF P fk fs (off + P.cellsOf f.type) with
      | none => simp [ha, hr] at h
      | some r =>
        simp only [ha, hr] at h
        cases hb : (Nat.beq f.offset off && Nat.beq a.length (P.cellsOf f.type)) with
        | false => simp [hb] at h
        | true =>
          simp [hb] at h; subst h
          simp only [Bool.and_eq_true, Nat.beq_eq] at hb
          obtain ⟨hb1, hb2⟩ := hb
          obtain ⟨y, ys', h1, h2, rfl⟩ := mapM_some_cons hy
          obtain ⟨k1, k2, k3⟩ := hk f.type a ha w base spare held fuel _ y.1 y.2 h1
          rw [List.length_append] at hl
          obtain ⟨m1, m2, m3⟩ := flatF_at hk fs (off + P.cellsOf f.type) r ys' hr h2 (by omega)
          refine ⟨?_, ?_, fun w' base' spare' held' => ?_⟩
          · simp only [List.flatMap_cons, k1, m1, List.nil_append]
          · rw [hb1, ← hb2] at k2
            rw [← hb2] at m2
            have e : (cs.drop off).take (a ++ r).length = (cs.drop off).take a.length ++ (cs.drop (off + a.length)).take r.length := by
              rw [List.length_append, List.take_add, List.drop_drop]
            rw [e]
            exact k2.append m2
          · have q1 := k3 w' base' spare' held'
            have q2 := m3 w' base' spare' held'
            simp only [List.mapM_cons, q1, q2]
            rfl

theorem flatK_at : ∀ (d : Nat) (t : TypeId) (ks : List CK), flatK P d t = some ks → FlatAt enc P ks t
  | 0, _, _, h => by simp [flatK] at h
  | d + 1, t, ks, h => by
    intro w base spare held fuel cs dd ps ht
    cases fuel with
    | zero => simp [DataW.trod] at ht
    | succ fuel =>
      simp only [flatK] at h
      cases hu : P.underlying t with
      | none => simp [hu] at h
      | some desc =>
        cases desc <;> simp only [hu] at h <;> try (simp at h; done)
        case bool =>
          simp at h; subst h
          unfold DataW.trod at ht ⊢
          simp only [hu] at ht ⊢
          split at ht <;> simp_all
          obtain ⟨_, rfl⟩ := ht
          simp [CKok]
        case int k =>
          simp at h; subst h
          unfold DataW.trod at ht ⊢
          simp only [hu] at ht ⊢
          split at ht <;> simp_all
          obtain ⟨⟨rfl, hwf⟩, hd, rfl⟩ := ht
          simp [CKok, wf_in hwf]
        case struct fs =>
          cases hr : flatF P (flatK P d) fs.toList 0 with
          | none => simp [hr] at h
          | some r =>
            simp only [hr] at h
            cases hb : Nat.beq r.length (P.cellsOf t) with
            | false => simp [hb] at h
            | true =>
              simp [hb] at h; subst h
              simp only [Nat.beq_eq] at hb
              unfold DataW.trod at ht ⊢
              simp only [hu] at ht ⊢
              by_cases hl : cs.length = P.cellsOf t
              · rw [if_pos hl] at ht
                simp only [if_pos hl]
                cases hm : (fs.toList.mapM fun f => DataW.trod enc P w base spare held fuel f.type ((cs.drop f.offset).take (P.cellsOf f.type))) with
                | none => rw [hm] at ht; simp at ht
                | some ys =>
                  rw [hm] at ht
                  simp only [Option.map_some, Option.some.injEq, Prod.mk.injEq] at ht
                  obtain ⟨m1, m2, m3⟩ := flatF_at (flatK_at d) fs.toList 0 r ys hr hm (by omega)
                  refine ⟨by rw [← ht.2]; exact m1, ?_, fun w' base' spare' held' => ?_⟩
                  · have e : (cs.drop 0).take r.length = cs := by rw [List.drop_zero, List.take_of_length_le (by omega)]
                    rwa [e] at m2
                  · rw [m3 w' base' spare' held']
                    simp only [Option.map_some, Option.some.injEq, Prod.mk.injEq]
                    exact ht
              · rw [if_neg hl] at ht; simp at ht

/-- a flat argument, opened: its cells, and that it reads alike in every memory -/
theorem open_flat {w : World} {base : Nat} {spare : Nat → Bool} {held : Bool} {r : Reach} {b0 d : Nat} {t : TypeId} {fs : Array Field} {ks : List CK} {v : Value} {dd : DataW H} {ps : List MemPlace} (hk : flatK P d t = some ks) (ht : P.underlying t = some (.struct fs))
    (hval : Value.okWide P w r b0 t v) (hd : DataW.Trod enc P w base spare held t v dd ps) :
    ∃ us : List Value, v = .agg us.toArray ∧ CKok ks us ∧ ps = [] ∧ ∀ (w' : World) (base' : Nat) (spare' : Nat → Bool) (held' : Bool), DataW.Trod enc P w' base' spare' held' t v dd [] := by
  obtain ⟨cs, rfl, _⟩ := okWide_struct ht hval
  obtain ⟨fuel, hf⟩ := hd
  obtain ⟨k1, k2, k3⟩ := flatK_at d t ks hk w base spare held fuel _ _ _ hf
  subst k1
  exact ⟨cs.toList, by cases cs; rfl, by simpa [Value.cells] using k2, rfl, fun w' base' spare' held' => ⟨fuel, k3 w' base' spare' held'⟩⟩
end
end Ev
end Go.Proofs.Ytialgmhhkbdegaa
