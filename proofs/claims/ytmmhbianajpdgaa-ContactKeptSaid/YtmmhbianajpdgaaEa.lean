/- A symbolic evaluator for the code of Go functions as the model has it: values with open numbers, a heap of the call's own blocks. Definitions alone; that it is sound is proved in the text Eb. -/
import Derived.WalkKit
namespace Go.Proofs.Ytmmhbianajpdgaa
namespace Ev

inductive AV where
  | bool (b : Bool)
  | int (k : IntKind) (n : Int)
  | ptr (id row st col : Nat)
  | nilp
  | sl (id row st len cap : Nat)
  | val (v : Value)
  | agg (cs : List AV)
  | tup (cs : List AV)
  | fn (f : Fn) (first captured : List AV)
  | top

def minK : IntKind → Int
  | .i8 => -128
  | .i16 => -32768
  | .i32 => -2147483648
  | .i64 => -9223372036854775808
  | _ => 0
def maxK : IntKind → Int
  | .i8 => 127
  | .i16 => 32767
  | .i32 => 2147483647
  | .i64 => 9223372036854775807
  | .u8 => 255
  | .u16 => 65535
  | .u32 => 4294967295
  | .u64 => 18446744073709551615
/-- the number is one of its kind -/
def inK (k : IntKind) (n : Int) : Prop := minK k ≤ n ∧ n ≤ maxK k
def inKB (k : IntKind) (n : Int) : Bool := decide (minK k ≤ n) && decide (n ≤ maxK k)
def ofCell : Value → AV
  | .bool b => .bool b
  | .int k n => bif inKB k n then .int k n else .val (.int k n)
  | .pointer none => .nilp
  | .func f a c => bif a.isEmpty && c.isEmpty then .fn f [] [] else .val (.func f a c)
  | v => .val v
def ofV : Value → AV
  | .agg cs => .agg (cs.toList.map ofCell)
  | v => ofCell v
def one : AV → Bool
  | .bool _ | .int _ _ | .ptr _ _ _ _ | .nilp | .sl _ _ _ _ _ | .fn _ _ _ => true
  | .val v => v.oneCell'
  | _ => false
def cellsA : AV → Option (List AV)
  | .agg cs => some cs
  | x => bif one x then some [x] else none

structure Blk where
  ty : TypeId
  cs : List AV
  own : Bool

abbrev Heap := Nat → Option Blk
structure St where
  tm : Nat → AV
  n : Nat
  hp : Heap
  nx : Nat

inductive Tree (α : Type) where
  | leaf (a : α)
  | need (p : Prop) (t : Tree α)
  | br (c : Bool) (t e : Tree α)
  | fail
def Tree.sat {α : Type} (R : α → Prop) : Tree α → Prop
  | .leaf a => R a
  | .need p t => p ∧ t.sat R
  | .br c t e => (c = true → t.sat R) ∧ (c = false → e.sat R)
  | .fail => False
def Tree.bind {α β : Type} (t : Tree α) (f : α → Tree β) : Tree β :=
  match t with
  | .leaf a => f a
  | .need p t => .need p (t.bind f)
  | .br c t e => bif c then t.bind f else e.bind f
  | .fail => .fail

/-- one place of a function turned -/
def upd {β : Type} (f : Nat → β) (i : Nat) (x : β) : Nat → β := fun j => bif Nat.beq j i then x else f j

def St.put (s : St) (d : Option Nat) (x : AV) : St :=
  match d with
  | some d => { s with tm := upd s.tm d x }
  | none => s
def St.eval (s : St) : Operand → AV
  | .tmp t => s.tm t
  | .const v => ofV v
  | .global g => .val (.pointer (some ⟨g, 0, none⟩))
  | .func f => .fn (.func f) [] []

def nth {β : Type} : List β → Nat → Option β
  | [], _ => none
  | x :: _, 0 => some x
  | _ :: l, n + 1 => nth l n
def takeA {β : Type} : Nat → List β → List β
  | 0, _ => []
  | _, [] => []
  | n + 1, x :: l => x :: takeA n l
def dropA {β : Type} : Nat → List β → List β
  | 0, l => l
  | _, [] => []
  | n + 1, _ :: l => dropA n l
def setA {β : Type} : List β → Nat → β → List β
  | [], _, _ => []
  | _ :: l, 0, y => y :: l
  | x :: l, n + 1, y => x :: setA l n y
def setsA {β : Type} : List β → Nat → List β → List β
  | cs, _, [] => cs
  | cs, off, v :: vs => setsA (setA cs off v) (off + 1) vs
def lenA {β : Type} : List β → Nat
  | [] => 0
  | _ :: l => lenA l + 1

section
variable (P : Program)
def sizeT (t : TypeId) : Option Nat := (P.info? t).map (·.size)
def bytesT (t : TypeId) : Option Int := (P.info? t).map (fun i => (i.bytes : Int))
def isAggT (t : TypeId) : Option Bool :=
  match P.underlying t with
  | some (.struct _) | some (.array _ _) => some true
  | some _ => some false
  | none => none
def zeroT (t : TypeId) : Option (List AV) :=
  match P.info? t with
  | some i => match i.zero with
    | some z => some (z.cells.toList.map ofCell)
    | none => none
  | none => none
def fillA (place : Nat → Option (Nat × Nat)) : List AV → List (Nat × AV) → Option (List AV)
  | cs, [] => some cs
  | cs, (i, x) :: rest =>
    match place i, cellsA x with
    | some (off, size), some vs => bif Nat.beq (lenA vs) size && Nat.ble (off + lenA vs) (lenA cs) then fillA place (setsA cs off vs) rest else none
    | _, _ => none
def placesA : List Field → Option (List (Nat × Nat))
  | [] => some []
  | f :: fs => match sizeT P f.type, placesA fs with
    | some s, some r => some ((f.offset, s) :: r)
    | _, _ => none
def partA (t : TypeId) (cs : List AV) (off : Nat) : Option AV :=
  match isAggT P t, sizeT P t with
  | some true, some s => bif Nat.ble (off + s) (lenA cs) then some (.agg (takeA s (dropA off cs))) else none
  | some false, _ => nth cs off
  | _, _ => none
def buildA (t : TypeId) (parts : List (Nat × AV)) : Option AV :=
  match zeroT P t, P.underlying t with
  | some z, some (.struct fs) =>
    match placesA P fs.toList with
    | some places => (fillA (nth places) z parts).map .agg
    | none => none
  | some z, some (.array _ e) =>
    match sizeT P e with
    | some s => (fillA (fun i => some (i * s, s)) z parts).map .agg
    | none => none
  | _, _ => none

def eqF (eq : TypeId → AV → AV → Option Bool) : List Field → List AV → List AV → Option Bool
  | [], _, _ => some true
  | f :: fs, xs, ys =>
    bif decide (f.name = "_") then none else
    match partA P f.type xs f.offset, partA P f.type ys f.offset with
    | some a, some b => match eq f.type a b, eqF eq fs xs ys with
      | some p, some q => some (p && q)
      | _, _ => none
    | _, _ => none
def eqI (eq : TypeId → AV → AV → Option Bool) (e : TypeId) (c : Nat) (xs ys : List AV) : List Nat → Option Bool
  | [] => some true
  | i :: is => match partA P e xs (i * c), partA P e ys (i * c) with
    | some a, some b => match eq e a b, eqI eq e c xs ys is with
      | some p, some q => some (p && q)
      | _, _ => none
    | _, _ => none
def eqA : Nat → TypeId → AV → AV → Option Bool
  | 0, _, _, _ => none
  | d + 1, t, x, y =>
    match P.underlying t, x, y with
    | some .bool, .bool a, .bool b => some (a == b)
    | some (.int _), .int k a, .int k' b => bif decide (k = k') then some (a == b) else none
    | some (.struct fs), .agg xs, .agg ys => bif P.stoodInHeld t then none else eqF P (eqA d) fs.toList xs ys
    | some (.array n e), .agg xs, .agg ys => match P.info? e with
      | some i => eqI P (eqA d) e i.size xs ys (List.range n)
      | none => none
    | _, _, _ => none

inductive Eff where
  | val (x : AV)
  | load (id row st col n : Nat) (agg : Bool)
  | store (id row st col : Nat) (vs : List AV)
  | alloc (b : Blk) (mk : Nat → AV)
  | app (id row st n cap id' row' st' m : Nat)
  | call (f : FuncId) (args : List AV)
  | test (c : Bool) (a : Eff)
  | bad

def ofOpt : Option AV → Eff
  | some x => .val x
  | none => .bad

def arithA (op : BinOp) (k : IntKind) (x y : Int) : Eff :=
  match op with
  | .add => .val (.int k (k.wrap (x + y)))
  | .sub => .val (.int k (k.wrap (x - y)))
  | .mul => .val (.int k (k.wrap (x * y)))
  | .quo => .test (y != 0) (.val (.int k (k.wrap (x.tdiv y))))
  | .rem => .test (y != 0) (.val (.int k (x.tmod y)))
  | .and => .val (.int k (k.wrap (BitVec.ofInt k.bits x &&& BitVec.ofInt k.bits y).toNat))
  | .or => .val (.int k (k.wrap (BitVec.ofInt k.bits x ||| BitVec.ofInt k.bits y).toNat))
  | .xor => .val (.int k (k.wrap (BitVec.ofInt k.bits x ^^^ BitVec.ofInt k.bits y).toNat))
  | .andNot => .val (.int k (k.wrap (BitVec.ofInt k.bits x &&& ~~~ BitVec.ofInt k.bits y).toNat))
  | .eql => .val (.bool (x == y))
  | .neq => .val (.bool (x != y))
  | .lss => .val (.bool (decide (x < y)))
  | .leq => .val (.bool (decide (x ≤ y)))
  | .gtr => .val (.bool (decide (x > y)))
  | .geq => .val (.bool (decide (x ≥ y)))
  | _ => .bad
def shiftA (op : BinOp) (k : IntKind) (x y : Int) : Eff :=
  match op with
  | .shl => .test (decide (0 ≤ y)) (.val (.int k (k.wrap (x * 2 ^ (min y.toNat k.bits)))))
  | .shr => .test (decide (0 ≤ y)) (.val (.int k (x.fdiv (2 ^ (min y.toNat k.bits)))))
  | _ => .bad
def notA : Option Bool → Eff
  | some b => .val (.bool (!b))
  | none => .bad
def yesA : Option Bool → Eff
  | some b => .val (.bool b)
  | none => .bad
def binA (op : BinOp) (t : TypeId) (x y : AV) : Eff :=
  match op, x, y with
  | .shl, .int k a, .int _ b => shiftA .shl k a b
  | .shr, .int k a, .int _ b => shiftA .shr k a b
  | op, .int k a, .int k' b => bif decide (k = k') then arithA op k a b else .bad
  | .eql, .bool a, .bool b => bif (match P.underlying t with | some .bool => true | _ => false) then .val (.bool (a == b)) else .bad
  | .neq, .bool a, .bool b => bif (match P.underlying t with | some .bool => true | _ => false) then .val (.bool (!(a == b))) else .bad
  | .eql, .agg xs, .agg ys => bif P.eqGuardType P.depth t then .bad else yesA (eqA P Op.maxDepth t (.agg xs) (.agg ys))
  | .neq, .agg xs, .agg ys => bif P.eqGuardType P.depth t then .bad else notA (eqA P Op.maxDepth t (.agg xs) (.agg ys))
  | _, _, _ => .bad
def unA (op : UnOp) (x : AV) : Eff :=
  match op, x with
  | .neg, .int k n => .val (.int k (k.wrap (0 - n)))
  | .not, .bool b => .val (.bool (!b))
  | _, _ => .bad
def convA (src dst : TypeId) (x : AV) : Eff :=
  match P.underlying src, P.underlying dst, x with
  | some (.int _), some (.int k), .int _ n => .val (.int k (k.wrap n))
  | _, _, _ => .bad
def maxA (k : IntKind) (x : Int) : List AV → Option AV
  | [] => some (.int k x)
  | .int k' y :: l => bif decide (k = k') then maxA k (max x y) l else none
  | _ => none
def minA (k : IntKind) (x : Int) : List AV → Option AV
  | [] => some (.int k x)
  | .int k' y :: l => bif decide (k = k') then minA k (min x y) l else none
  | _ => none

def isSliceO : Option TypeId → Bool
  | some t => match P.underlying t with | some (.slice _) => true | _ => false
  | none => false
/-- append within the room that there is -/
def appA (t u : Option TypeId) (id row st n cap id' row' st' m : Nat) : Eff :=
  match t, u with
  | some t, some u => match P.underlying t, P.underlying u with
    | some (.slice e), some (.slice _) => match sizeT P e with
      | some s => bif Nat.beq st s && (Nat.beq st' s && (Nat.ble 1 s && Nat.ble (n + m) cap)) then .app id row st n cap id' row' st' m else .bad
      | none => .bad
    | _, _ => .bad
  | _, _ => .bad
/-- n cells, the zero value's over and over -/
def zerosA (z : List AV) (s n : Nat) : List AV := (List.range n).map fun j => match nth z (j % s) with | some x => x | none => .top

def builtinA (ts : Array TypeId) (b : Builtin) (args : List AV) : Eff :=
  match b, args with
  | .len, [.sl _ _ _ n _] => bif isSliceO P ts[0]? then .val (.int .i64 n) else .bad
  | .append, [.sl id row st n cap, .sl id' row' st' m _] => appA P ts[0]? ts[1]? id row st n cap id' row' st' m
  | .max, .int k x :: l => ofOpt (maxA k x l)
  | .min, .int k x :: l => ofOpt (minA k x l)
  | _, _ => .bad
/-- what an operation does, out of the values of its operands -/
def eff (o : Op) (ρ : Operand → AV) : Eff :=
  match o with
  | .move x | .assign x => .val (ρ x)
  | .pick c a b => match ρ c with
    | .bool c => bif c then .val (ρ a) else .val (ρ b)
    | _ => .bad
  | .alloc t => match zeroT P t with
    | some z => .alloc ⟨t, z, true⟩ (fun id => .ptr id 0 0 0)
    | none => .bad
  | .box t x => match cellsA (ρ x) with
    | some cs => .alloc ⟨t, cs, true⟩ (fun id => .ptr id 0 0 0)
    | none => .bad
  | .build t parts => ofOpt (buildA P t (parts.toList.map fun p => (p.1, ρ p.2)))
  | .load t a => match ρ a, isAggT P t, sizeT P t with
    | .ptr id row st col, some true, some s => .load id row st col s true
    | .ptr id row st col, some false, _ => .load id row st col 1 false
    | _, _, _ => .bad
  | .store t a x => match ρ a, cellsA (ρ x), sizeT P t with
    | .ptr id row st col, some cs, some s => bif Nat.beq (lenA cs) s && cs.all one then .store id row st col cs else .bad
    | _, _, _ => .bad
  | .binOp op t x y _ => binA P op t (ρ x) (ρ y)
  | .unOp op _ x => unA op (ρ x)
  | .convert src dst x => convA P src dst (ρ x)
  | .nilCheck x => match ρ x with
    | .ptr id row st col => .val (.ptr id row st col)
    | .fn (.func f) a c => .val (.fn (.func f) a c)
    | _ => .bad
  | .makeFunc fn first captured => .val (.fn fn (first.toList.map ρ) (captured.toList.map ρ))
  | .fieldAddr t x i => match ρ x, P.underlying t with
    | .ptr id row st col, some (.struct fs) => match nth fs.toList i with
      | some f => match sizeT P f.type with
        | some s => bif Nat.beq s 0 then .bad else .val (.ptr id row st (col + f.offset))
        | none => .bad
      | none => .bad
    | _, _ => .bad
  | .field t x i => match ρ x, P.underlying t with
    | .agg cs, some (.struct fs) => match nth fs.toList i with
      | some f => ofOpt (partA P f.type cs f.offset)
      | none => .bad
    | _, _ => .bad
  | .indexAddr t x i => match ρ x, ρ i, P.underlying t with
    | .ptr id row st col, .int _ n, some (.array len e) => match sizeT P e with
      | some s => .test (decide (0 ≤ n ∧ n < len)) (.val (.ptr id row st (col + n.toNat * s)))
      | none => .bad
    | .sl id row st len _, .int _ n, some (.slice e) => match sizeT P e with
      | some s => bif Nat.beq st s then .test (decide (0 ≤ n ∧ n < len)) (.val (.ptr id (row + n.toNat) st 0)) else .bad
      | none => .bad
    | _, _, _ => .bad
  | .index t x i => match ρ x, ρ i, P.underlying t with
    | .val (.string s), .int _ n, some .string => .test (decide (0 ≤ n ∧ n < s.size)) (.val (.int .u8 ((s.data.toList.getD n.toNat 0).toNat)))
    | .agg cs, .int _ n, some (.array len e) => match sizeT P e with
      | some s => .test (decide (0 ≤ n ∧ n < len)) (ofOpt (partA P e cs (n.toNat * s)))
      | none => .bad
    | _, _, _ => .bad
  | .extract x i => match ρ x with
    | .tup vs => ofOpt (nth vs i)
    | _ => .bad
  | .call c => match c.callee with
    | .value f => match ρ f with
      | .fn (.func f) first captured => .call f (first ++ c.args.toList.map ρ ++ captured)
      | _ => .bad
    | .builtin b => builtinA P c.argTypes b (c.args.toList.map ρ)
    | _ => .bad
  | .makeSlice t l c => match ρ l, ρ c, P.underlying t with
    | .int _ l, .int _ c, some (.slice e) => match sizeT P e, zeroT P e, bytesT P e with
      | some s, some z, some by' =>
        bif Nat.ble 1 s && Nat.beq (lenA z) s then .test (decide (0 ≤ l ∧ l ≤ c ∧ c ≤ 65536 ∧ by' * c ≤ 281474976710656)) (.alloc ⟨e, zerosA z s (c.toNat * s), true⟩ (fun id => .sl id 0 s l.toNat c.toNat)) else .bad
      | _, _, _ => .bad
    | _, _, _ => .bad
  | .buildSlice t len parts => match P.underlying t with
    | some (.slice e) => match sizeT P e, zeroT P e with
      | some s, some z =>
        bif Nat.ble (len * s) 4096 && (Nat.ble 1 (len * s) && Nat.beq (lenA z) s) then
          match fillA (fun i => some (i * s, s)) (zerosA z s (len * s)) (parts.toList.map fun p => (p.1, ρ p.2)) with
          | some cs => .alloc ⟨e, cs, true⟩ (fun id => .sl id 0 s len len)
          | none => .bad
        else .bad
      | _, _ => .bad
    | _ => .bad
  | _ => .bad
end

/-- a call: the function, its arguments, the heap, the next number; what is done with the result and the heap behind it -/
abbrev CallT (α : Type) := FuncId → List AV → Heap → Nat → (AV → Heap → Nat → Tree α) → Tree α

section
variable {α : Type} (P : Program) (cT : CallT α)

def evEff (o : Option Nat) (s : St) (K : St → Tree α) : Eff → Tree α
  | .val x => K (s.put o x)
  | .load id row st col n agg => match s.hp id with
    | some b => bif Nat.ble (row * st + col + n) (lenA b.cs) then
        (bif agg then K (s.put o (.agg (takeA n (dropA (row * st + col) b.cs)))) else match nth b.cs (row * st + col) with
          | some x => K (s.put o x)
          | none => .fail)
      else .fail
    | none => .fail
  | .store id row st col vs => match s.hp id with
    | some b => bif b.own && Nat.ble (row * st + col + lenA vs) (lenA b.cs) then K ({ s with hp := upd s.hp id (some ⟨b.ty, setsA b.cs (row * st + col) vs, true⟩) }.put o (.val undef)) else .fail
    | none => .fail
  | .alloc b mk => K ({ s with hp := upd s.hp s.nx (some b), nx := s.nx + 1 }.put o (mk s.nx))
  | .app id row st n cap id' row' st' m => match s.hp id, s.hp id' with
    | some b, some b' =>
      bif b.own && (Nat.ble ((row' + m) * st') (lenA b'.cs) && (Nat.ble ((row + n + m) * st) (lenA b.cs) && (takeA (m * st') (dropA (row' * st') b'.cs)).all one)) then
        K ({ s with hp := upd s.hp id (some ⟨b.ty, setsA b.cs ((row + n) * st) (takeA (m * st') (dropA (row' * st') b'.cs)), true⟩) }.put o (.sl id row st (n + m) cap))
      else .fail
    | _, _ => .fail
  | .call f args => cT f args s.hp s.nx fun v hp nx => K ({ s with hp := hp, nx := nx }.put o v)
  | .test c a => bif c then evEff o s K a else .fail
  | .bad => .fail

def evOps (ops : Array Oper) : List Nat → St → (St → Tree α) → Tree α
  | [], s, K => K s
  | i :: rest, s, K =>
    match ops[i]? with
    | none => evOps ops rest s K
    | some o =>
      bif Nat.ble s.n ((o.dst).getD 0) then .fail else
      match o.guard with
      | none => evEff cT o.dst s (fun s' => evOps ops rest s' K) (eff P o.op s.eval)
      | some (j, want) =>
        match (ops[j]?).bind (·.dst) with
        | none => .fail
        | some d =>
          bif Nat.ble s.n d then .fail else
          match s.tm d with
          | .bool b =>
            bif b then (bif want then evEff cT o.dst (s.put (some d) (.bool true)) (fun s' => evOps ops rest s' K) (eff P o.op (s.put (some d) (.bool true)).eval)
                else evOps ops rest ((s.put (some d) (.bool true)).put o.dst (.val undef)) K)
            else (bif want then evOps ops rest ((s.put (some d) (.bool false)).put o.dst (.val undef)) K
                else evEff cT o.dst (s.put (some d) (.bool false)) (fun s' => evOps ops rest s' K) (eff P o.op (s.put (some d) (.bool false)).eval))
          | .val (.tuple _) => evOps ops rest (s.put o.dst (.val undef)) K
          | _ => .fail

/-- a summary of a function that neither reads nor writes memory: a condition, and what it hands back -/
abbrev PureT := List AV → Option (Bool × AV)
def assoc {β : Type} : List (Nat × β) → Nat → Option β
  | [], _ => none
  | (k, x) :: l, i => bif Nat.beq k i then some x else assoc l i

/-- what one operation of a region does to memory -/
inductive Mem where
  | no
  | ld (id lo hi : Nat)
  | st (id lo : Nat) (vs : List AV)
  | al (b : Blk)
structure It where
  dst : Option Nat
  res : AV
  mem : Mem
def Mem.app (id0 : Nat) (m : Mem) (hp : Heap) : Heap :=
  match m with
  | .st id lo vs => upd hp id (match hp id with | some b => some ⟨b.ty, setsA b.cs lo vs, b.own⟩ | none => none)
  | .al b => upd hp id0 (some b)
  | _ => hp
def It.app (id0 : Nat) (it : It) (s : St) : St := { s with hp := it.mem.app id0 s.hp }.put it.dst it.res

/-- one operation of a region whose order is open, walked in the text's order -/
def plEff (pu : List (Nat × PureT)) (id0 : Nat) (dst : Option Nat) (s : St) (k : It → Tree α) : Eff → Tree α
  | .val x => k ⟨dst, x, .no⟩
  | .load id row st col n agg => match s.hp id with
    | some b => bif Nat.ble 1 n && Nat.ble (row * st + col + n) (lenA b.cs) then
        (bif agg then k ⟨dst, .agg (takeA n (dropA (row * st + col) b.cs)), .ld id (row * st + col) (row * st + col + n)⟩ else match nth b.cs (row * st + col) with
          | some x => k ⟨dst, x, .ld id (row * st + col) (row * st + col + n)⟩
          | none => .fail)
      else .fail
    | none => .fail
  | .store id row st col vs => match s.hp id with
    | some b => bif Nat.ble 1 (lenA vs) && (b.own && Nat.ble (row * st + col + lenA vs) (lenA b.cs)) then k ⟨dst, .val undef, .st id (row * st + col) vs⟩ else .fail
    | none => .fail
  | .alloc b mk => k ⟨dst, mk id0, .al b⟩
  | .app .. => .fail
  | .call f args => match assoc pu f with
    | some g => match g args with
      | some (c, x) => bif c then k ⟨dst, x, .no⟩ else .fail
      | none => .fail
    | none => .fail
  | .test c e => bif c then plEff pu id0 dst s k e else .fail
  | .bad => .fail

def evPlan (pu : List (Nat × PureT)) (nx : Nat) (ops : Array Oper) : List Nat → List It → St → (List It → St → Tree α) → Tree α
  | [], acc, s, K => K acc s
  | i :: rest, acc, s, K =>
    match ops[i]? with
    | none => .fail
    | some o =>
      bif Nat.ble s.n ((o.dst).getD 0) then .fail else
      match o.guard with
      | none => plEff pu (nx + i) o.dst s (fun it => evPlan pu nx ops rest (acc ++ [it]) (it.app (nx + i) s) K) (eff P o.op s.eval)
      | some (j, want) =>
        match (ops[j]?).bind (·.dst) with
        | none => .fail
        | some d =>
          bif Nat.ble s.n d then .fail else
          match s.tm d with
          | .bool b =>
            bif b then (bif want then plEff pu (nx + i) o.dst (s.put (some d) (.bool true)) (fun it => evPlan pu nx ops rest (acc ++ [it]) (it.app (nx + i) (s.put (some d) (.bool true))) K) (eff P o.op (s.put (some d) (.bool true)).eval)
                else evPlan pu nx ops rest (acc ++ [⟨o.dst, .val undef, .no⟩]) ((s.put (some d) (.bool true)).put o.dst (.val undef)) K)
            else (bif want then evPlan pu nx ops rest (acc ++ [⟨o.dst, .val undef, .no⟩]) ((s.put (some d) (.bool false)).put o.dst (.val undef)) K
                else plEff pu (nx + i) o.dst (s.put (some d) (.bool false)) (fun it => evPlan pu nx ops rest (acc ++ [it]) (it.app (nx + i) (s.put (some d) (.bool false))) K) (eff P o.op (s.put (some d) (.bool false)).eval))
          | .val (.tuple _) => evPlan pu nx ops rest (acc ++ [⟨o.dst, .val undef, .no⟩]) (s.put o.dst (.val undef)) K
          | _ => .fail

/-- which operations come before one, as the bits of a number -/
def maskOf (acc : List Nat) : List Edge → Nat
  | [] => 0
  | e :: l => bif Region.binds .any e then (2 ^ e.on ||| ((nth acc e.on).getD 0)) ||| maskOf acc l else maskOf acc l
def masks : List Oper → List Nat → List Nat
  | [], acc => acc
  | o :: l, acc => masks l (acc ++ [maskOf acc o.after.toList])
def edgesOk : List Oper → Nat → Bool
  | [], _ => true
  | o :: l, i => (o.after.toList.all fun e => bif Region.binds .any e then Nat.blt e.on i else true) && edgesOk l (i + 1)
def apartB (id lo hi id' lo' hi' : Nat) : Bool := !(Nat.beq id id') || (Nat.ble hi lo' || Nat.ble hi' lo)
def memIndep (i : Nat) (m : Mem) (j : Nat) (k : Mem) : Bool :=
  match m, k with
  | .no, _ => true
  | _, .no => true
  | .ld _ _ _, .ld _ _ _ => true
  | .ld id lo hi, .st id' lo' vs => apartB id lo hi id' lo' (lo' + lenA vs)
  | .st id' lo' vs, .ld id lo hi => apartB id lo hi id' lo' (lo' + lenA vs)
  | .ld id _ _, .al _ => !(Nat.beq id j)
  | .al _, .ld id _ _ => !(Nat.beq id i)
  | .st id lo vs, .st id' lo' vs' => apartB id lo (lo + lenA vs) id' lo' (lo' + lenA vs')
  | .st id _ _, .al _ => !(Nat.beq id j)
  | .al _, .st id _ _ => !(Nat.beq id i)
  | .al _, .al _ => true
def looks (ops : Array Oper) (o : Oper) : List Nat :=
  (o.op.operands.toList.filterMap fun | .tmp t => some t | _ => none) ++
  (match o.guard with
   | some (g, _) => ((ops[g]?).bind (·.dst)).toList
   | none => [])
def notIn (d : Option Nat) (l : List Nat) : Bool :=
  match d with
  | some d => l.all fun t => !(Nat.beq t d)
  | none => true
def diffD (d e : Option Nat) : Bool :=
  match d, e with
  | some d, some e => !(Nat.beq d e)
  | _, _ => true
/-- what the plan of a region keeps of an operation for the look at pairs -/
structure Row where
  dst : Option Nat
  looks : List Nat
  mem : Mem
  mask : Nat
def rowsOf (ops : Array Oper) : List Oper → List It → List Nat → List Row
  | o :: l, it :: is, m :: ms => ⟨it.dst, looks ops o, it.mem, m⟩ :: rowsOf ops l is ms
  | _, _, _ => []
def pairOk (nx i : Nat) (r : Row) (j : Nat) (q : Row) : Bool :=
  diffD r.dst q.dst && (Nat.testBit q.mask i || (notIn r.dst q.looks && (notIn q.dst r.looks && memIndep (nx + i) r.mem (nx + j) q.mem)))
def rowOk (nx i : Nat) (r : Row) : Nat → List Row → Bool
  | _, [] => true
  | j, q :: l => pairOk nx i r j q && rowOk nx i r (j + 1) l
def rowsOk (nx : Nat) : Nat → List Row → Bool
  | _, [] => true
  | i, r :: l => rowOk nx i r (i + 1) l && rowsOk nx (i + 1) l
def planOk (nx : Nat) (ops : Array Oper) (items : List It) : Bool :=
  edgesOk ops.toList 0 && rowsOk nx 0 (rowsOf ops ops.toList items (masks ops.toList []))

/-- a call of a function that no summary of its own covers -/
def outCall (pu : List (Nat × PureT)) : Op → Bool
  | .call c => match c.callee with
    | .value (.func f) => match assoc pu f with
      | some _ => false
      | none => true
    | .builtin _ => false
    | _ => true
  | _ => false
/-- how many operations stand before the first such call -/
def headLen (pu : List (Nat × PureT)) : List Oper → Nat
  | [] => 0
  | o :: l => bif outCall pu o.op then 0 else headLen pu l + 1
/-- from a number on each operation comes after all that stand before it -/
def fullOk (m : Nat) : Nat → List Nat → Bool
  | _, [] => true
  | k, x :: l => (bif Nat.ble m k then (List.range k).all (fun j => Nat.testBit x j) else true) && fullOk m (k + 1) l

def learn (c : Operand) (b : Bool) (s : St) : St :=
  match c with
  | .tmp t => bif Nat.ble s.n t then s else s.put (some t) (.bool b)
  | _ => s

def unroll : Nat → (St → (Exit → St → Tree α) → Tree α) → St → (Exit → St → Tree α) → Tree α
  | 0, _, _, _ => .fail
  | n + 1, body, s, K => body s fun e s' => match e with
    | .normal => unroll n body s' K
    | e => K e s'

/-- the first region's number: by which a loop is known -/
def keyOf : Code → Nat
  | .region id _ _ => id
  | .seq a _ => keyOf a
  | .block _ c => keyOf c
  | .loop c => keyOf c
  | .scope c => keyOf c
  | _ => 0

/-- what is known of a loop: its number, and the states in which it may end -/
abbrev LoopT := Nat → Option (St → Tree (Exit × St))

def evC (pu : List (Nat × PureT)) (u : Nat) (L : LoopT) : Code → St → (Exit → St → Tree α) → Tree α
  | .skip, s, K => K .normal s
  | .region _ ops false, s, K => evOps P cT ops (List.range ops.size) s (K .normal)
  | .region _ ops true, s, K => evPlan P pu s.nx ops (List.range (headLen pu ops.toList)) [] { s with nx := s.nx + ops.size } fun items s' =>
      bif planOk s.nx ops items && fullOk (headLen pu ops.toList) 0 (masks ops.toList []) then evOps P cT ops ((List.range ops.size).drop (headLen pu ops.toList)) s' (K .normal) else .fail
  | .seq a b, s, K => evC pu u L a s fun e s' => match e with
    | .normal => evC pu u L b s' K
    | e => K e s'
  | .cond c a b, s, K => match s.eval c with
    | .bool x => bif x then evC pu u L a (learn c true s) K else evC pu u L b (learn c false s) K
    | _ => .fail
  | .block id c, s, K => evC pu u L c s fun e s' => match e with
    | .exit id' => bif Nat.beq id' id then K .normal s' else K (.exit id') s'
    | e => K e s'
  | .loop c, s, K => match L (keyOf c) with
    | some f => (f s).bind fun x => K x.1 x.2
    | none => unroll u (fun s K => evC pu u L c s K) s K
  | .exit id, s, K => K (.exit id) s
  | .ret, s, K => K .ret s
  | _, _, _ => .fail
end

/-- the values that a function hands back -/
def resultsA (P : Program) (s : St) : List ResultVar → Option (List AV)
  | [] => some []
  | .tmp t :: l => (resultsA P s l).map (s.tm t :: ·)
  | .cell a t :: l => match s.tm a, isAggT P t, sizeT P t with
    | .ptr id row st col, some agg, some n => match s.hp id with
      | some b => bif agg then (bif Nat.ble (row * st + col + n) (lenA b.cs) then (resultsA P s l).map (.agg (takeA n (dropA (row * st + col) b.cs)) :: ·) else none)
          else match nth b.cs (row * st + col) with
            | some x => (resultsA P s l).map (x :: ·)
            | none => none
      | none => none
    | _, _, _ => none
def tupA : List AV → AV
  | [x] => x
  | l => .tup l

structure Ctx where
  P : Program
  u : Nat
  fns : List (Nat × Func)
  loops : List ((Nat × Nat) × (St → Tree (Exit × St)))
  pures : List (Nat × PureT)
  specs : List (Nat × (Heap → Nat → List AV → Tree (AV × Heap × Nat)))
def assoc2 {β : Type} : List ((Nat × Nat) × β) → Nat → Nat → Option β
  | [], _, _ => none
  | (k, x) :: l, i, j => bif Nat.beq k.1 i && Nat.beq k.2 j then some x else assoc2 l i j
def frameOf : List AV → Nat → AV
  | [], _ => .val undef
  | x :: _, 0 => x
  | _ :: l, n + 1 => frameOf l n

def evFn {α : Type} (X : Ctx) : Nat → CallT α
  | 0, _, _, _, _, _ => .fail
  | m + 1, f, args, hp, nx, K =>
    match (assoc X.pures f).bind (· args) with
    | some (c, x) => bif c then K x hp nx else .fail
    | none =>
    match assoc X.specs f with
    | some c => (c hp nx args).bind fun r => K r.1 r.2.1 r.2.2
    | none =>
      match assoc X.fns f with
      | none => .fail
      | some fn =>
        match fn.body with
        | none => .fail
        | some c =>
          bif Nat.ble (lenA args) fn.ntmps then
            evC X.P (evFn X m) X.pures X.u (assoc2 X.loops f) c { tm := frameOf args, n := fn.ntmps, hp := hp, nx := nx } fun e s =>
              match e with
              | .normal | .ret => match resultsA X.P s fn.results.toList with
                | some l => K (tupA l) s.hp s.nx
                | none => .fail
              | _ => .fail
          else .fail
end Ev
end Go.Proofs.Ytmmhbianajpdgaa
