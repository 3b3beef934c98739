/- A symbolic evaluator for the code of Go functions as the model has it, second edition: values with open numbers; plain data of open length; a heap of the call's own blocks, lists, maps and loops; panics, deferred calls, loops over functions. Definitions alone. -/
import Derived.WalkKit
namespace Go.Proofs.Ytmmhbianajpdgaa
namespace V

/-! codes of plain data, and the data -/
inductive TC where
  | b | i (k : IntKind) | s | sl (c : TC) | st (cs : List TC)
mutual
@[reducible] def TCT : TC → Type
  | .b => Bool
  | .i _ => Int
  | .s => ByteArray
  | .sl c => List (TCT c)
  | .st cs => TCTs cs
@[reducible] def TCTs : List TC → Type
  | [] => Unit
  | c :: cs => TCT c × TCTs cs
end
mutual
def TC.size : TC → Nat
  | .st cs => sizes cs
  | _ => 1
def sizes : List TC → Nat
  | [] => 0
  | c :: cs => c.size + sizes cs
end
mutual
def TC.beq : TC → TC → Bool
  | .b, .b => true
  | .i j, .i k => decide (j = k)
  | .s, .s => true
  | .sl c, .sl d => c.beq d
  | .st cs, .st ds => beqs cs ds
  | _, _ => false
def beqs : List TC → List TC → Bool
  | [], [] => true
  | c :: cs, d :: ds => c.beq d && beqs cs ds
  | _, _ => false
end
mutual
theorem TC.beq_eq : ∀ (c d : TC), c.beq d = true → c = d
  | .b, d, h => by cases d <;> simp [TC.beq] at h ⊢
  | .i j, d, h => by cases d <;> simp [TC.beq] at h ⊢; exact h
  | .s, d, h => by cases d <;> simp [TC.beq] at h ⊢
  | .sl c, d, h => by
    cases d <;> simp [TC.beq] at h ⊢
    exact TC.beq_eq c _ h
  | .st cs, d, h => by
    cases d <;> simp [TC.beq] at h ⊢
    exact beqs_eq cs _ h
theorem beqs_eq : ∀ (cs ds : List TC), beqs cs ds = true → cs = ds
  | [], ds, h => by cases ds <;> simp [beqs] at h ⊢
  | c :: cs, ds, h => by
    cases ds with
    | nil => simp [beqs] at h
    | cons d ds =>
      simp only [beqs, Bool.and_eq_true] at h
      rw [TC.beq_eq c d h.1, beqs_eq cs ds h.2]
end
mutual
def dflt : (c : TC) → TCT c
  | .b => false
  | .i _ => (0 : Int)
  | .s => ByteArray.empty
  | .sl _ => []
  | .st cs => dflts cs
def dflts : (cs : List TC) → TCTs cs
  | [] => ()
  | c :: cs => (dflt c, dflts cs)
end
/-- data of one code as data of another one that is the same -/
def castL (c d : TC) (xs : List (TCT c)) : Option (List (TCT d)) := if h : c.beq d = true then some (TC.beq_eq c d h ▸ xs) else none

mutual
def TC.noSl : TC → Bool
  | .sl _ => false
  | .st cs => noSls cs
  | _ => true
def noSls : List TC → Bool
  | [] => true
  | c :: cs => c.noSl && noSls cs
end

inductive AV where
  | bool (b : Bool)
  | int (k : IntKind) (n : Int)
  | ptr (id row st col : Nat)
  | nilp
  | sl (id off st len cap : Nat)
  | val (v : Value)
  | agg (cs : List AV)
  | tup (cs : List AV)
  | fn (f : Fn) (first captured : List AV)
  | ro (c : TC) (xs : List (TCT c))
  | rop (c : TC) (x : TCT c) (col : Nat)
  | own (id : Nat)
  | mp (id : Nat)
  | yld (id : Nat)
  | ifc (t : TypeId) (x : AV)
  | top

def minK : IntKind → Int
  | .i8 => -128
  | .i16 => -32768
  | .i32 => -2147483648
  | .i64 => -9223372036854775808
  | _ => 0
def maxK : IntKind → Int
  | .i8 => 127
  | .i16 => 32767
  | .i32 => 2147483647
  | .i64 => 9223372036854775807
  | .u8 => 255
  | .u16 => 65535
  | .u32 => 4294967295
  | .u64 => 18446744073709551615
/-- the number is one of its kind -/
def inK (k : IntKind) (n : Int) : Prop := minK k ≤ n ∧ n ≤ maxK k
def inKB (k : IntKind) (n : Int) : Bool := decide (minK k ≤ n) && decide (n ≤ maxK k)
def ofCell : Value → AV
  | .bool b => .bool b
  | .int k n => bif inKB k n then .int k n else .val (.int k n)
  | .pointer none => .nilp
  | .func f a c => bif a.isEmpty && c.isEmpty then .fn f [] [] else .val (.func f a c)
  | v => .val v
def ofV : Value → AV
  | .agg cs => .agg (cs.toList.map ofCell)
  | v => ofCell v
def one : AV → Bool
  | .bool _ | .int _ _ | .ptr _ _ _ _ | .nilp | .sl _ _ _ _ _ | .fn _ _ _ | .ro _ _ | .rop _ _ _ | .own _ | .mp _ | .yld _ | .ifc _ _ => true
  | .val v => v.oneCell'
  | _ => false
def cellsA : AV → Option (List AV)
  | .agg cs => some cs
  | x => bif one x then some [x] else none

structure Blk where
  ty : TypeId
  cs : List AV
/-- a list that is the call's own: elements of a type, by a code -/
structure Arr where
  ty : TypeId
  c : TC
  xs : List (TCT c)
/-- a map that is the call's own -/
structure Mp where
  kc : TC
  vc : TC
  get : TCT kc → Option (TCT vc)
/-- a loop over a function -/
structure LoopR where
  tm : Nat → AV
  n : Nat
  fn : FuncId
  params : List Nat
  assign : Code
  body : Code
  st : LoopState
  pend : Option Code
  df : Nat
inductive Ob where
  | blk (b : Blk)
  | arr (A : Arr)
  | mp (M : Mp)
  | lp (r : LoopR)
  | dfr
abbrev Heap := Nat → Option Ob
/-- a call that is deferred, or the mark of a loop over a function -/
inductive DfA where
  | call (f : FuncId) (args captured : List AV)
  | mark (id : Nat)
structure St where
  tm : Nat → AV
  n : Nat
  hp : Heap
  nx : Nat
  df : List DfA
  rd : Bool
/-- how code is left -/
inductive XE where
  | normal
  | exit (id : Nat)
  | ret
  | panic (x : AV)
/-- what a call comes to -/
inductive Out where
  | ret (x : AV)
  | pan (x : AV)

inductive Tree (α : Type) where
  | leaf (a : α)
  | need (p : Prop) (t : Tree α)
  | br (c : Bool) (t e : Tree α)
  | fail
def Tree.sat {α : Type} (R : α → Prop) : Tree α → Prop
  | .leaf a => R a
  | .need p t => p ∧ t.sat R
  | .br c t e => (c = true → t.sat R) ∧ (c = false → e.sat R)
  | .fail => False
def Tree.bind {α β : Type} (t : Tree α) (f : α → Tree β) : Tree β :=
  match t with
  | .leaf a => f a
  | .need p t => .need p (t.bind f)
  | .br c t e => bif c then t.bind f else e.bind f
  | .fail => .fail

/-- one place of a function turned -/
def upd {β : Type} (f : Nat → β) (i : Nat) (x : β) : Nat → β := fun j => bif Nat.beq j i then x else f j

def St.put (s : St) (d : Option Nat) (x : AV) : St :=
  match d with
  | some d => { s with tm := upd s.tm d x }
  | none => s
def St.eval (s : St) : Operand → AV
  | .tmp t => s.tm t
  | .const v => ofV v
  | .global g => .val (.pointer (some ⟨g, 0, none⟩))
  | .func f => .fn (.func f) [] []

def nth {β : Type} : List β → Nat → Option β
  | [], _ => none
  | x :: _, 0 => some x
  | _ :: l, n + 1 => nth l n
def takeA {β : Type} : Nat → List β → List β
  | 0, _ => []
  | _, [] => []
  | n + 1, x :: l => x :: takeA n l
def dropA {β : Type} : Nat → List β → List β
  | 0, l => l
  | _, [] => []
  | n + 1, _ :: l => dropA n l
def setA {β : Type} : List β → Nat → β → List β
  | [], _, _ => []
  | _ :: l, 0, y => y :: l
  | x :: l, n + 1, y => x :: setA l n y
def setsA {β : Type} : List β → Nat → List β → List β
  | cs, _, [] => cs
  | cs, off, v :: vs => setsA (setA cs off v) (off + 1) vs
def lenA {β : Type} : List β → Nat
  | [] => 0
  | _ :: l => lenA l + 1

def getA {β : Type} : List β → Nat → β → β
  | [], _, d => d
  | x :: _, 0, _ => x
  | _ :: l, n + 1, d => getA l n d

/-! data as cells, and back -/
mutual
def enc : (c : TC) → TCT c → List AV
  | .b, x => [.bool x]
  | .i k, n => [.int k n]
  | .s, x => [.val (.string x)]
  | .sl c, xs => [.ro c xs]
  | .st cs, x => encs cs x
def encs : (cs : List TC) → TCTs cs → List AV
  | [], _ => []
  | c :: cs, (x, y) => enc c x ++ encs cs y
end
def decB : List AV → Option (Bool × List AV)
  | .bool x :: l => some (x, l)
  | _ => none
def decI (k : IntKind) : List AV → Option (Int × List AV)
  | .int j n :: l => bif decide (j = k) then some (n, l) else none
  | _ => none
def decS : List AV → Option (ByteArray × List AV)
  | .val (.string x) :: l => some (x, l)
  | _ => none
def decSl (c : TC) : List AV → Option (List (TCT c) × List AV)
  | .ro d xs :: l => match castL d c xs with
    | some ys => some (ys, l)
    | none => none
  | .val (.slice none 0 0) :: l => some ([], l)
  | _ => none
mutual
def dec : (c : TC) → List AV → Option (TCT c × List AV)
  | .b, l => decB l
  | .i k, l => decI k l
  | .s, l => decS l
  | .sl c, l => decSl c l
  | .st cs, l => decs cs l
def decs : (cs : List TC) → List AV → Option (TCTs cs × List AV)
  | [], l => some ((), l)
  | c :: cs, l => match dec c l with
    | some (x, l') => match decs cs l' with
      | some (y, l'') => some ((x, y), l'')
      | none => none
    | none => none
end
/-- cells as a list of elements -/
def decRows (c : TC) : Nat → List AV → Option (List (TCT c))
  | 0, _ => some []
  | n + 1, l => match dec c l with
    | some (x, l') => match decRows c n l' with
      | some xs => some (x :: xs)
      | none => none
    | none => none
def encA : (c : TC) → TCT c → AV
  | .b, x => .bool x
  | .i k, n => .int k n
  | .s, x => .val (.string x)
  | .sl c, xs => .ro c xs
  | .st cs, x => .agg (encs cs x)
def encAs : (cs : List TC) → TCTs cs → List AV
  | [], _ => []
  | c :: cs, (x, y) => encA c x :: encAs cs y
def decAg (cs : List TC) : AV → Option (TCTs cs)
  | .agg l => match decs cs l with
    | some (x, []) => some x
    | _ => none
  | _ => none
def dec1 (c : TC) (x : AV) : Option (TCT c) :=
  match dec c [x] with
  | some (y, []) => some y
  | _ => none
def decA : (c : TC) → AV → Option (TCT c)
  | .b, x => dec1 .b x
  | .i k, x => dec1 (.i k) x
  | .s, x => dec1 .s x
  | .sl c, x => dec1 (.sl c) x
  | .st cs, x => decAg cs x
def decAs : (cs : List TC) → List AV → Option (TCTs cs)
  | [], [] => some ()
  | c :: cs, x :: l => match decA c x, decAs cs l with
    | some y, some z => some (y, z)
    | _, _ => none
  | _, _ => none
def tupA : List AV → AV
  | [x] => x
  | l => .tup l
def encR (rs : List TC) (y : TCTs rs) : AV := tupA (encAs rs y)
def decR (rs : List TC) (x : AV) : Option (TCTs rs) :=
  match rs, x with
  | [c], x => match decA c x with
    | some y => some (y, ())
    | none => none
  | rs, .tup l => decAs rs l
  | _, _ => none

section
variable (P : Program)
/-- the code of a type -/
def tcs (tc : TypeId → Option TC) : List Field → Option (List TC)
  | [] => some []
  | f :: fs => match tc f.type, tcs tc fs with
    | some c, some cs => some (c :: cs)
    | _, _ => none
def tcOf : Nat → TypeId → Option TC
  | 0, _ => none
  | d + 1, t => match P.underlying t with
    | some .bool => some .b
    | some (.int k) => some (.i k)
    | some .string => some .s
    | some (.slice e) => (tcOf d e).map .sl
    | some (.struct fs) => (tcs (tcOf d) fs.toList).map .st
    | some (.array n e) => (tcOf d e).map fun c => .st (List.replicate n c)
    | _ => none
def sizeT (t : TypeId) : Option Nat := (P.info? t).map (·.size)
def bytesT (t : TypeId) : Option Int := (P.info? t).map (fun i => (i.bytes : Int))
def isAggT (t : TypeId) : Option Bool :=
  match P.underlying t with
  | some (.struct _) | some (.array _ _) => some true
  | some _ => some false
  | none => none
def zeroT (t : TypeId) : Option (List AV) :=
  match P.info? t with
  | some i => match i.zero with
    | some z => some (z.cells.toList.map ofCell)
    | none => none
  | none => none
def fillA (place : Nat → Option (Nat × Nat)) : List AV → List (Nat × AV) → Option (List AV)
  | cs, [] => some cs
  | cs, (i, x) :: rest =>
    match place i, cellsA x with
    | some (off, size), some vs => bif Nat.beq (lenA vs) size && Nat.ble (off + lenA vs) (lenA cs) then fillA place (setsA cs off vs) rest else none
    | _, _ => none
def placesA : List Field → Option (List (Nat × Nat))
  | [] => some []
  | f :: fs => match sizeT P f.type, placesA fs with
    | some s, some r => some ((f.offset, s) :: r)
    | _, _ => none
def partA (t : TypeId) (cs : List AV) (off : Nat) : Option AV :=
  match isAggT P t, sizeT P t with
  | some true, some s => bif Nat.ble (off + s) (lenA cs) then some (.agg (takeA s (dropA off cs))) else none
  | some false, _ => nth cs off
  | _, _ => none
def buildA (t : TypeId) (parts : List (Nat × AV)) : Option AV :=
  match zeroT P t, P.underlying t with
  | some z, some (.struct fs) =>
    match placesA P fs.toList with
    | some places => (fillA (nth places) z parts).map .agg
    | none => none
  | some z, some (.array _ e) =>
    match sizeT P e with
    | some s => (fillA (fun i => some (i * s, s)) z parts).map .agg
    | none => none
  | _, _ => none

def eqF (eq : TypeId → AV → AV → Option Bool) : List Field → List AV → List AV → Option Bool
  | [], _, _ => some true
  | f :: fs, xs, ys =>
    bif decide (f.name = "_") then none else
    match partA P f.type xs f.offset, partA P f.type ys f.offset with
    | some a, some b => match eq f.type a b, eqF eq fs xs ys with
      | some p, some q => some (p && q)
      | _, _ => none
    | _, _ => none
def eqI (eq : TypeId → AV → AV → Option Bool) (e : TypeId) (c : Nat) (xs ys : List AV) : List Nat → Option Bool
  | [] => some true
  | i :: is => match partA P e xs (i * c), partA P e ys (i * c) with
    | some a, some b => match eq e a b, eqI eq e c xs ys is with
      | some p, some q => some (p && q)
      | _, _ => none
    | _, _ => none
def eqA : Nat → TypeId → AV → AV → Option Bool
  | 0, _, _, _ => none
  | d + 1, t, x, y =>
    match P.underlying t, x, y with
    | some .bool, .bool a, .bool b => some (a == b)
    | some (.int _), .int k a, .int k' b => bif decide (k = k') then some (a == b) else none
    | some (.struct fs), .agg xs, .agg ys => bif P.stoodInHeld t then none else eqF P (eqA d) fs.toList xs ys
    | some (.array n e), .agg xs, .agg ys => match P.info? e with
      | some i => eqI P (eqA d) e i.size xs ys (List.range n)
      | none => none
    | _, _, _ => none

/-- a list of the call's own, as it reads now -/
def ro1 (hp : Heap) : AV → AV
  | .own id => match hp id with
    | some (.arr A) => .ro A.c A.xs
    | _ => .own id
  | .sl id off st len cap => match hp id with
    | some (.blk b) => match tcOf P 8 b.ty with
      | some c => bif Nat.beq st c.size && Nat.ble (off + len * st) (lenA b.cs) then match decRows c len (takeA (len * st) (dropA off b.cs)) with
          | some xs => .ro c xs
          | none => .sl id off st len cap
        else .sl id off st len cap
      | none => .sl id off st len cap
    | _ => .sl id off st len cap
  | x => x
def toRO (hp : Heap) : AV → AV
  | .agg cs => .agg (cs.map (ro1 P hp))
  | x => ro1 P hp x
/-- the lists' numbers in a value -/
def ids1 : AV → List Nat
  | .own id => [id]
  | .sl id _ _ _ _ => [id]
  | _ => []
def idsOf : AV → List Nat
  | .agg cs => cs.flatMap ids1
  | x => ids1 x
/-- blocks that are not turned any more -/
def drop1 (hp : Heap) : List Nat → Heap
  | [] => hp
  | id :: l => drop1 (upd hp id none) l

inductive Eff where
  | val (x : AV)
  | load (id row st col n : Nat) (agg : Bool)
  | store (id row st col : Nat) (vs : List AV)
  | alloc (b : Blk) (mk : Nat → AV)
  | list (ty : TypeId) (c : TC) (xs : List (TCT c))
  | app (ty : TypeId) (bytes st : Nat) (c : Option TC) (dst src : AV)
  | idx (id st : Nat) (n : Int)
  | len (id : Nat)
  | call (f : FuncId) (args : List AV)
  | round (id : Nat) (args : List AV)
  | dfr (d : DfA)
  | panic (x : AV)
  | mapNew
  | mapGet (id : Nat) (kt vt : TypeId) (key : AV) (ok : Bool)
  | mapSet (id : Nat) (kt : TypeId) (key x : AV)
  | test (c : Bool) (a : Eff)
  | bad

def ofOpt : Option AV → Eff
  | some x => .val x
  | none => .bad

def arithA (op : BinOp) (k : IntKind) (x y : Int) : Eff :=
  match op with
  | .add => .val (.int k (k.wrap (x + y)))
  | .sub => .val (.int k (k.wrap (x - y)))
  | .mul => .val (.int k (k.wrap (x * y)))
  | .quo => .test (y != 0) (.val (.int k (k.wrap (x.tdiv y))))
  | .rem => .test (y != 0) (.val (.int k (x.tmod y)))
  | .and => .val (.int k (k.wrap (BitVec.ofInt k.bits x &&& BitVec.ofInt k.bits y).toNat))
  | .or => .val (.int k (k.wrap (BitVec.ofInt k.bits x ||| BitVec.ofInt k.bits y).toNat))
  | .xor => .val (.int k (k.wrap (BitVec.ofInt k.bits x ^^^ BitVec.ofInt k.bits y).toNat))
  | .andNot => .val (.int k (k.wrap (BitVec.ofInt k.bits x &&& ~~~ BitVec.ofInt k.bits y).toNat))
  | .eql => .val (.bool (x == y))
  | .neq => .val (.bool (x != y))
  | .lss => .val (.bool (decide (x < y)))
  | .leq => .val (.bool (decide (x ≤ y)))
  | .gtr => .val (.bool (decide (x > y)))
  | .geq => .val (.bool (decide (x ≥ y)))
  | _ => .bad
def shiftA (op : BinOp) (k : IntKind) (x y : Int) : Eff :=
  match op with
  | .shl => .test (decide (0 ≤ y)) (.val (.int k (k.wrap (x * 2 ^ (min y.toNat k.bits)))))
  | .shr => .test (decide (0 ≤ y)) (.val (.int k (x.fdiv (2 ^ (min y.toNat k.bits)))))
  | _ => .bad
def notA : Option Bool → Eff
  | some b => .val (.bool (!b))
  | none => .bad
def yesA : Option Bool → Eff
  | some b => .val (.bool b)
  | none => .bad
def binA (op : BinOp) (t : TypeId) (x y : AV) : Eff :=
  match op, x, y with
  | .shl, .int k a, .int _ b => shiftA .shl k a b
  | .shr, .int k a, .int _ b => shiftA .shr k a b
  | op, .int k a, .int k' b => bif decide (k = k') then arithA op k a b else .bad
  | .eql, .bool a, .bool b => bif (match P.underlying t with | some .bool => true | _ => false) then .val (.bool (a == b)) else .bad
  | .neq, .bool a, .bool b => bif (match P.underlying t with | some .bool => true | _ => false) then .val (.bool (!(a == b))) else .bad
  | .eql, .agg xs, .agg ys => bif P.eqGuardType P.depth t then .bad else yesA (eqA P Op.maxDepth t (.agg xs) (.agg ys))
  | .neq, .agg xs, .agg ys => bif P.eqGuardType P.depth t then .bad else notA (eqA P Op.maxDepth t (.agg xs) (.agg ys))
  | _, _, _ => .bad
def unA (op : UnOp) (x : AV) : Eff :=
  match op, x with
  | .neg, .int k n => .val (.int k (k.wrap (0 - n)))
  | .not, .bool b => .val (.bool (!b))
  | _, _ => .bad
def convA (src dst : TypeId) (x : AV) : Eff :=
  match P.underlying src, P.underlying dst, x with
  | some (.int _), some (.int k), .int _ n => .val (.int k (k.wrap n))
  | _, _, _ => .bad
def maxA (k : IntKind) (x : Int) : List AV → Option AV
  | [] => some (.int k x)
  | .int k' y :: l => bif decide (k = k') then maxA k (max x y) l else none
  | _ => none
def minA (k : IntKind) (x : Int) : List AV → Option AV
  | [] => some (.int k x)
  | .int k' y :: l => bif decide (k = k') then minA k (min x y) l else none
  | _ => none

def isSliceO : Option TypeId → Bool
  | some t => match P.underlying t with | some (.slice _) => true | _ => false
  | none => false
/-- n cells, the zero value's over and over -/
def zerosA (z : List AV) (s n : Nat) : List AV := (List.range n).map fun j => match nth z (j % s) with | some x => x | none => .top

def builtinA (ts : Array TypeId) (b : Builtin) (args : List AV) : Eff :=
  match b, args with
  | .len, [.sl _ _ _ n _] => bif isSliceO P ts[0]? then .val (.int .i64 n) else .bad
  | .len, [.ro _ xs] => bif isSliceO P ts[0]? then .val (.int .i64 xs.length) else .bad
  | .len, [.own id] => bif isSliceO P ts[0]? then .len id else .bad
  | .len, [.val (.slice none 0 0)] => bif isSliceO P ts[0]? then .val (.int .i64 0) else .bad
  | .append, [x, y] => match ts[0]?, ts[1]? with
    | some t, some u => bif Nat.beq t u then match P.underlying t with
        | some (.slice e) => match sizeT P e, bytesT P e, zeroT P e with
          | some s, some by', some z => bif Nat.ble 1 s && (decide (1 ≤ by') && Nat.beq (lenA z) s) then .app e by'.toNat s (tcOf P 8 e) x y else .bad
          | _, _, _ => .bad
        | _ => .bad
      else .bad
    | _, _ => .bad
  | .max, .int k x :: l => ofOpt (maxA k x l)
  | .min, .int k x :: l => ofOpt (minA k x l)
  | _, _ => .bad
/-- what an operation does, out of the values of its operands -/
def eff (o : Op) (ρ : Operand → AV) : Eff :=
  match o with
  | .move x | .assign x => .val (ρ x)
  | .pick c a b => match ρ c with
    | .bool c => bif c then .val (ρ a) else .val (ρ b)
    | _ => .bad
  | .alloc t => match zeroT P t with
    | some z => .alloc ⟨t, z⟩ (fun id => .ptr id 0 0 0)
    | none => .bad
  | .box t x => match cellsA (ρ x) with
    | some cs => .alloc ⟨t, cs⟩ (fun id => .ptr id 0 0 0)
    | none => .bad
  | .build t parts => ofOpt (buildA P t (parts.toList.map fun p => (p.1, ρ p.2)))
  | .load t a => match ρ a, isAggT P t, sizeT P t with
    | .ptr id row st col, some true, some s => .load id row st col s true
    | .ptr id row st col, some false, _ => .load id row st col 1 false
    | .rop c x col, some true, some s => bif Nat.ble (col + s) c.size then .val (.agg (takeA s (dropA col (enc c x)))) else .bad
    | .rop c x col, some false, _ => ofOpt (nth (enc c x) col)
    | _, _, _ => .bad
  | .store t a x => match ρ a, cellsA (ρ x), sizeT P t with
    | .ptr id row st col, some cs, some s => bif Nat.beq (lenA cs) s && cs.all one then .store id row st col cs else .bad
    | _, _, _ => .bad
  | .binOp op t x y _ => binA P op t (ρ x) (ρ y)
  | .unOp op _ x => unA op (ρ x)
  | .convert src dst x => convA P src dst (ρ x)
  | .nilCheck x => match ρ x with
    | .ptr id row st col => .val (.ptr id row st col)
    | .rop c x col => .val (.rop c x col)
    | .fn (.func f) a c => .val (.fn (.func f) a c)
    | .yld id => .val (.yld id)
    | _ => .bad
  | .makeFunc fn first captured => .val (.fn fn (first.toList.map ρ) (captured.toList.map ρ))
  | .makeInterface t x => match P.underlying t with
    | some (.interface _) => .bad
    | some _ => .val (.ifc t (ρ x))
    | none => .bad
  | .fieldAddr t x i => match ρ x, P.underlying t with
    | .ptr id row st col, some (.struct fs) => match nth fs.toList i with
      | some f => match sizeT P f.type with
        | some s => bif Nat.beq s 0 then .bad else .val (.ptr id row st (col + f.offset))
        | none => .bad
      | none => .bad
    | .rop c x col, some (.struct fs) => match nth fs.toList i with
      | some f => match sizeT P f.type with
        | some s => bif Nat.beq s 0 then .bad else .val (.rop c x (col + f.offset))
        | none => .bad
      | none => .bad
    | _, _ => .bad
  | .field t x i => match ρ x, P.underlying t with
    | .agg cs, some (.struct fs) => match nth fs.toList i with
      | some f => ofOpt (partA P f.type cs f.offset)
      | none => .bad
    | _, _ => .bad
  | .indexAddr t x i => match ρ x, ρ i, P.underlying t with
    | .ptr id row st col, .int _ n, some (.array len e) => match sizeT P e with
      | some s => .test (decide (0 ≤ n ∧ n < len)) (.val (.ptr id row st (col + n.toNat * s)))
      | none => .bad
    | .rop c x col, .int _ n, some (.array len e) => match sizeT P e with
      | some s => .test (decide (0 ≤ n ∧ n < len)) (.val (.rop c x (col + n.toNat * s)))
      | none => .bad
    | .sl id off st len _, .int _ n, some (.slice e) => match sizeT P e with
      | some s => bif Nat.beq st s then .test (decide (0 ≤ n ∧ n < len)) (.val (.ptr id n.toNat st off)) else .bad
      | none => .bad
    | .ro c xs, .int _ n, some (.slice e) => match sizeT P e with
      | some s => bif Nat.beq c.size s && Nat.ble 1 s then .test (decide (0 ≤ n ∧ n < xs.length)) (.val (.rop c (getA xs n.toNat (dflt c)) 0)) else .bad
      | none => .bad
    | .own id, .int _ n, some (.slice e) => match sizeT P e with
      | some s => .idx id s n
      | none => .bad
    | _, _, _ => .bad
  | .index t x i => match ρ x, ρ i, P.underlying t with
    | .val (.string s), .int _ n, some .string => .test (decide (0 ≤ n ∧ n < s.size)) (.val (.int .u8 ((s.data.toList.getD n.toNat 0).toNat)))
    | .agg cs, .int _ n, some (.array len e) => match sizeT P e with
      | some s => .test (decide (0 ≤ n ∧ n < len)) (ofOpt (partA P e cs (n.toNat * s)))
      | none => .bad
    | _, _, _ => .bad
  | .extract x i => match ρ x with
    | .tup vs => ofOpt (nth vs i)
    | _ => .bad
  | .call c => match c.callee with
    | .value f => match ρ f with
      | .fn (.func f) first captured => .call f (first ++ c.args.toList.map ρ ++ captured)
      | .yld id => .round id (c.args.toList.map ρ)
      | _ => .bad
    | .builtin b => builtinA P c.argTypes b (c.args.toList.map ρ)
    | _ => .bad
  | .defer c => match c.callee with
    | .value f => match ρ f with
      | .fn (.func f) first captured => .dfr (.call f (first ++ c.args.toList.map ρ) captured)
      | _ => .bad
    | _ => .bad
  | .panic x => match ρ x with
    | .ifc t y => .panic (.ifc t y)
    | _ => .bad
  | .makeSlice t l c => match ρ l, ρ c, P.underlying t with
    | .int _ l, .int _ c, some (.slice e) => match sizeT P e, zeroT P e, bytesT P e with
      | some s, some z, some by' =>
        bif Nat.ble 1 s && Nat.beq (lenA z) s then .test (decide (0 ≤ l ∧ l ≤ c ∧ c ≤ 65536 ∧ by' * c ≤ 281474976710656)) (
          match tcOf P 8 e with
          | some d => match dec d z with
            | some (x, []) => bif Nat.beq d.size s then .list e d (List.replicate l.toNat x) else .bad
            | _ => .bad
          | none => .alloc ⟨e, zerosA z s (c.toNat * s)⟩ (fun id => .sl id 0 s l.toNat c.toNat)) else .bad
      | _, _, _ => .bad
    | _, _, _ => .bad
  | .buildSlice t len parts => match P.underlying t with
    | some (.slice e) => match sizeT P e, zeroT P e with
      | some s, some z =>
        bif Nat.ble (len * s) 4096 && (Nat.ble 1 s && Nat.beq (lenA z) s) then
          match fillA (fun i => some (i * s, s)) (zerosA z s (len * s)) (parts.toList.map fun p => (p.1, ρ p.2)) with
          | some cs => match (tcOf P 8 e).bind fun d => bif Nat.beq d.size s then (decRows d len cs).map fun xs => Eff.list e d xs else none with
            | some x => x
            | none => .alloc ⟨e, cs⟩ (fun id => .sl id 0 s len len)
          | none => .bad
        else .bad
      | _, _ => .bad
    | _ => .bad
  | .slice t x lo hi mx => match ρ x, P.underlying t, mx with
    | .ro c xs, some (.slice e), none => match sizeT P e, lo.map ρ, hi.map ρ with
      | some s, none, some (.int _ h) => bif Nat.beq c.size s then .test (decide (0 ≤ h ∧ h ≤ xs.length)) (.val (.ro c (xs.take h.toNat))) else .bad
      | some s, some (.int _ l), none => bif Nat.beq c.size s then .test (decide (0 ≤ l ∧ l ≤ xs.length)) (.val (.ro c (xs.drop l.toNat))) else .bad
      | some s, some (.int _ l), some (.int _ h) => bif Nat.beq c.size s then .test (decide (0 ≤ l ∧ l ≤ h ∧ h ≤ xs.length)) (.val (.ro c ((xs.take h.toNat).drop l.toNat))) else .bad
      | _, _, _ => .bad
    | .ptr id 0 _ col, some (.array n e), none => match lo, hi, sizeT P e with
      | none, none, some s => bif Nat.ble 1 n && Nat.ble n 65536 then .val (.sl id col s n n) else .bad
      | _, _, _ => .bad
    | _, _, _ => .bad
  | .makeMap t none => match P.underlying t with
    | some (.map _ _) => .mapNew
    | _ => .bad
  | .lookup t m k ok => match ρ m, P.underlying t with
    | .mp id, some (.map kt vt) => .mapGet id kt vt (ρ k) ok
    | _, _ => .bad
  | .mapUpdate t m k x => match ρ m, P.underlying t with
    | .mp id, some (.map kt _) => .mapSet id kt (ρ k) (ρ x)
    | _, _ => .bad
  | .typeAssert x _ t true => match ρ x, P.underlying t with
    | .ifc u y, some d => match d with
      | .interface _ => .bad
      | _ => bif Nat.beq u t then .val (.tup [y, .bool true]) else .bad
    | .val .nilIface, some d => match d with
      | .interface _ => .bad
      | _ => match (P.info? t).bind (·.zero) with
        | some (.int k n) => bif inKB k n then .val (.tup [.int k n, .bool false]) else .bad
        | _ => .bad
    | _, _ => .bad
  | _ => .bad
end

inductive Callee' where
  | fn (f : FuncId)
  | yld (id : Nat)
/-- a call: the function, its arguments, the heap, the next number; what is done with the result and the heap behind it -/
abbrev CallT (α : Type) := Callee' → List AV → Heap → Nat → (Out → Heap → Nat → Tree α) → Tree α

section
variable {α : Type} (P : Program) (cT : CallT α)

/-- the rows that are appended -/
def srcRows (hp : Heap) (c : TC) (st : Nat) : AV → Option (List (TCT c))
  | .ro d xs => castL d c xs
  | .own id => match hp id with
    | some (.arr A) => castL A.c c A.xs
    | _ => none
  | .sl id off st' len _ => match hp id with
    | some (.blk b) => bif Nat.beq st st' && Nat.ble (off + len * st) (lenA b.cs) then decRows c len (takeA (len * st) (dropA off b.cs)) else none
    | _ => none
  | .val (.slice none 0 0) => some []
  | _ => none
/-- what an append begins with: the rows, and the number that is used up -/
def dstRows (hp : Heap) (ty : TypeId) (c : TC) : AV → Option (List (TCT c) × Option Nat)
  | .own id => match hp id with
    | some (.arr A) => bif Nat.beq A.ty ty then (castL A.c c A.xs).map fun xs => (xs, some id) else none
    | _ => none
  | .val (.slice none 0 0) => some ([], none)
  | _ => none
def hpLess (hp : Heap) : Option Nat → Heap
  | some d => upd hp d none
  | none => hp
def evApp (o : Option Nat) (s : St) (K : XE → St → Tree α) (ty : TypeId) (bytes st : Nat) (c : Option TC) (dst src : AV) : Tree α :=
  match c with
  | some c => bif Nat.beq c.size st then
      match dstRows s.hp ty c dst, srcRows s.hp c st src with
      | some (xs, id), some ys =>
        bif decide (((xs.length + ys.length : Nat) : Int) * bytes ≤ 140737488355328) then
          K .normal ({ s with hp := upd (hpLess s.hp id) s.nx (some (.arr ⟨ty, c, xs ++ ys⟩)), nx := s.nx + 1 }.put o (.own s.nx))
        else .fail
      | _, _ => .fail
    else .fail
  | none => .fail

def evEff (o : Option Nat) (s : St) (K : XE → St → Tree α) : Eff → Tree α
  | .val x => K .normal (s.put o x)
  | .load id row st col n agg => match s.hp id with
    | some (.blk b) => bif Nat.ble (row * st + col + n) (lenA b.cs) then
        (bif agg then K .normal (s.put o (.agg (takeA n (dropA (row * st + col) b.cs)))) else match nth b.cs (row * st + col) with
          | some x => K .normal (s.put o x)
          | none => .fail)
      else .fail
    | some (.arr A) => bif Nat.beq A.c.size st && Nat.ble (col + n) st then bif decide (row < A.xs.length) then
        (bif agg then K .normal (s.put o (.agg (takeA n (dropA col (enc A.c (getA A.xs row (dflt A.c))))))) else match nth (enc A.c (getA A.xs row (dflt A.c))) col with
          | some x => K .normal (s.put o x)
          | none => .fail)
      else .fail else .fail
    | _ => .fail
  | .store id row st col vs => match s.hp id with
    | some (.blk b) => bif Nat.ble (row * st + col + lenA vs) (lenA b.cs) then K .normal ({ s with hp := upd s.hp id (some (.blk ⟨b.ty, setsA b.cs (row * st + col) vs⟩)) }.put o (.val undef)) else .fail
    | some (.arr A) => bif Nat.beq A.c.size st && Nat.ble (col + lenA vs) st then bif decide (row < A.xs.length) then
        match dec A.c (setsA (enc A.c (getA A.xs row (dflt A.c))) col vs) with
        | some (x, []) => K .normal ({ s with hp := upd s.hp id (some (.arr ⟨A.ty, A.c, setA A.xs row x⟩)) }.put o (.val undef))
        | _ => .fail
      else .fail else .fail
    | _ => .fail
  | .alloc b mk => K .normal ({ s with hp := upd s.hp s.nx (some (.blk b)), nx := s.nx + 1 }.put o (mk s.nx))
  | .list ty c xs => K .normal ({ s with hp := upd s.hp s.nx (some (.arr ⟨ty, c, xs⟩)), nx := s.nx + 1 }.put o (.own s.nx))
  | .app ty bytes st c dst src => evApp o s K ty bytes st c dst src
  | .idx id st n => match s.hp id with
    | some (.arr A) => bif Nat.beq A.c.size st then bif decide (0 ≤ n ∧ n < A.xs.length) then K .normal (s.put o (.ptr id n.toNat st 0)) else .fail else .fail
    | _ => .fail
  | .len id => match s.hp id with
    | some (.arr A) => K .normal (s.put o (.int .i64 A.xs.length))
    | _ => .fail
  | .call f args => cT (.fn f) args s.hp s.nx fun v hp nx => match v with
    | .ret v => K .normal ({ s with hp := hp, nx := nx }.put o v)
    | .pan v => K (.panic v) { s with hp := hp, nx := nx }
  | .round id args => cT (.yld id) args s.hp s.nx fun v hp nx => match v with
    | .ret v => K .normal ({ s with hp := hp, nx := nx }.put o v)
    | .pan v => K (.panic v) { s with hp := hp, nx := nx }
  | .dfr d => bif s.rd then .fail else K .normal ({ s with df := d :: s.df }.put o (.val undef))
  | .panic x => K (.panic x) s
  | .test c a => bif c then evEff o s K a else .fail
  | _ => .fail

def evOps (ops : Array Oper) : List Nat → St → (XE → St → Tree α) → Tree α
  | [], s, K => K .normal s
  | i :: rest, s, K =>
    match ops[i]? with
    | none => evOps ops rest s K
    | some o =>
      bif Nat.ble s.n ((o.dst).getD 0) then .fail else
      match o.guard with
      | none => evEff cT o.dst s (fun e s' => match e with | .normal => evOps ops rest s' K | e => K e s') (eff P o.op s.eval)
      | some (j, want) =>
        match (ops[j]?).bind (·.dst) with
        | none => .fail
        | some d =>
          bif Nat.ble s.n d then .fail else
          match s.tm d with
          | .bool b =>
            bif b then (bif want then evEff cT o.dst (s.put (some d) (.bool true)) (fun e s' => match e with | .normal => evOps ops rest s' K | e => K e s') (eff P o.op (s.put (some d) (.bool true)).eval)
                else evOps ops rest ((s.put (some d) (.bool true)).put o.dst (.val undef)) K)
            else (bif want then evOps ops rest ((s.put (some d) (.bool false)).put o.dst (.val undef)) K
                else evEff cT o.dst (s.put (some d) (.bool false)) (fun e s' => match e with | .normal => evOps ops rest s' K | e => K e s') (eff P o.op (s.put (some d) (.bool false)).eval))
          | .val (.tuple _) => evOps ops rest (s.put o.dst (.val undef)) K
          | _ => .fail

/-- a summary of a function that neither reads nor writes memory: a condition, and what it hands back; whether that holds no list -/
structure PureT where
  run : List AV → Option (Bool × AV)
  flat : Bool
def assoc {β : Type} : List (Nat × β) → Nat → Option β
  | [], _ => none
  | (k, x) :: l, i => bif Nat.beq k i then some x else assoc l i
/-- a summary by data: what the arguments are, what comes back, when it does, and what it is -/
def spec (cs rs : List TC) (ok : TCTs cs → Bool) (f : TCTs cs → TCTs rs) : PureT :=
  { run := fun l => match decAs cs l with
      | some x => some (ok x, encR rs (f x))
      | none => none
    flat := noSls rs }

/-- what one operation of a region does to memory -/
inductive Mem where
  | no
  | ld (id lo hi : Nat)
  | st (id lo : Nat) (vs : List AV)
  | al (b : Blk)
structure It where
  dst : Option Nat
  res : AV
  mem : Mem
def Mem.app (id0 : Nat) (m : Mem) (hp : Heap) : Heap :=
  match m with
  | .st id lo vs => upd hp id (match hp id with | some (.blk b) => some (.blk ⟨b.ty, setsA b.cs lo vs⟩) | o => o)
  | .al b => upd hp id0 (some (.blk b))
  | _ => hp
def It.app (id0 : Nat) (it : It) (s : St) : St := { s with hp := it.mem.app id0 s.hp }.put it.dst it.res

/-- one operation of a region whose order is open, walked in the text's order; what can't be walked so ends the walk -/
def plEff (pu : List (Nat × PureT)) (id0 : Nat) (dst : Option Nat) (s : St) (stop : Tree α) (k : It → Tree α) : Eff → Tree α
  | .val x => k ⟨dst, x, .no⟩
  | .load id row st col n agg => match s.hp id with
    | some (.blk b) => bif Nat.ble 1 n && Nat.ble (row * st + col + n) (lenA b.cs) then
        (bif agg then k ⟨dst, .agg (takeA n (dropA (row * st + col) b.cs)), .ld id (row * st + col) (row * st + col + n)⟩ else match nth b.cs (row * st + col) with
          | some x => k ⟨dst, x, .ld id (row * st + col) (row * st + col + n)⟩
          | none => .fail)
      else .fail
    | some (.arr A) => bif Nat.beq A.c.size st && Nat.ble (col + n) st then bif decide (row < A.xs.length) then
        (bif agg then k ⟨dst, .agg (takeA n (dropA col (enc A.c (getA A.xs row (dflt A.c))))), .no⟩ else match nth (enc A.c (getA A.xs row (dflt A.c))) col with
          | some x => k ⟨dst, x, .no⟩
          | none => .fail)
      else .fail else .fail
    | _ => .fail
  | .store id row st col vs => match s.hp id with
    | some (.blk b) => bif Nat.ble 1 (lenA vs) && Nat.ble (row * st + col + lenA vs) (lenA b.cs) then k ⟨dst, .val undef, .st id (row * st + col) vs⟩ else .fail
    | _ => stop
  | .alloc b mk => k ⟨dst, mk id0, .al b⟩
  | .idx id st n => match s.hp id with
    | some (.arr A) => bif Nat.beq A.c.size st then bif decide (0 ≤ n ∧ n < A.xs.length) then k ⟨dst, .ptr id n.toNat st 0, .no⟩ else .fail else .fail
    | _ => .fail
  | .len id => match s.hp id with
    | some (.arr A) => k ⟨dst, .int .i64 A.xs.length, .no⟩
    | _ => .fail
  | .call f args => match (assoc pu f).bind fun g => bif g.flat then g.run args else none with
    | some (c, x) => bif c then k ⟨dst, x, .no⟩ else .fail
    | none => stop
  | .test c e => bif c then plEff pu id0 dst s stop k e else .fail
  | .bad => .fail
  | _ => stop

def evPlan (pu : List (Nat × PureT)) (nx : Nat) (ops : Array Oper) (K : List It → St → Tree α) : List Nat → List It → St → Tree α
  | [], acc, s => K acc s
  | i :: rest, acc, s =>
    match ops[i]? with
    | none => .fail
    | some o =>
      bif Nat.ble s.n ((o.dst).getD 0) then .fail else
      match o.guard with
      | none => plEff pu (nx + i) o.dst s (K acc s) (fun it => evPlan pu nx ops K rest (acc ++ [it]) (it.app (nx + i) s)) (eff P o.op s.eval)
      | some (j, want) =>
        match (ops[j]?).bind (·.dst) with
        | none => .fail
        | some d =>
          bif Nat.ble s.n d then .fail else
          match s.tm d with
          | .bool b =>
            bif b then (bif want then plEff pu (nx + i) o.dst (s.put (some d) (.bool true)) (K acc (s.put (some d) (.bool true))) (fun it => evPlan pu nx ops K rest (acc ++ [it]) (it.app (nx + i) (s.put (some d) (.bool true)))) (eff P o.op (s.put (some d) (.bool true)).eval)
                else evPlan pu nx ops K rest (acc ++ [⟨o.dst, .val undef, .no⟩]) ((s.put (some d) (.bool true)).put o.dst (.val undef)))
            else (bif want then evPlan pu nx ops K rest (acc ++ [⟨o.dst, .val undef, .no⟩]) ((s.put (some d) (.bool false)).put o.dst (.val undef))
                else plEff pu (nx + i) o.dst (s.put (some d) (.bool false)) (K acc (s.put (some d) (.bool false))) (fun it => evPlan pu nx ops K rest (acc ++ [it]) (it.app (nx + i) (s.put (some d) (.bool false)))) (eff P o.op (s.put (some d) (.bool false)).eval))
          | .val (.tuple _) => evPlan pu nx ops K rest (acc ++ [⟨o.dst, .val undef, .no⟩]) (s.put o.dst (.val undef))
          | _ => .fail

/-- which operations come before one, as the bits of a number -/
def maskOf (acc : List Nat) : List Edge → Nat
  | [] => 0
  | e :: l => bif Region.binds .any e then (2 ^ e.on ||| ((nth acc e.on).getD 0)) ||| maskOf acc l else maskOf acc l
def masks : List Oper → List Nat → List Nat
  | [], acc => acc
  | o :: l, acc => masks l (acc ++ [maskOf acc o.after.toList])
def edgesOk : List Oper → Nat → Bool
  | [], _ => true
  | o :: l, i => (o.after.toList.all fun e => bif Region.binds .any e then Nat.blt e.on i else true) && edgesOk l (i + 1)
def apartB (id lo hi id' lo' hi' : Nat) : Bool := !(Nat.beq id id') || (Nat.ble hi lo' || Nat.ble hi' lo)
def memIndep (i : Nat) (m : Mem) (j : Nat) (k : Mem) : Bool :=
  match m, k with
  | .no, _ => true
  | _, .no => true
  | .ld _ _ _, .ld _ _ _ => true
  | .ld id lo hi, .st id' lo' vs => apartB id lo hi id' lo' (lo' + lenA vs)
  | .st id' lo' vs, .ld id lo hi => apartB id lo hi id' lo' (lo' + lenA vs)
  | .ld id _ _, .al _ => !(Nat.beq id j)
  | .al _, .ld id _ _ => !(Nat.beq id i)
  | .st id lo vs, .st id' lo' vs' => apartB id lo (lo + lenA vs) id' lo' (lo' + lenA vs')
  | .st id _ _, .al _ => !(Nat.beq id j)
  | .al _, .st id _ _ => !(Nat.beq id i)
  | .al _, .al _ => true
def looks (ops : Array Oper) (o : Oper) : List Nat :=
  (o.op.operands.toList.filterMap fun | .tmp t => some t | _ => none) ++
  (match o.guard with
   | some (g, _) => ((ops[g]?).bind (·.dst)).toList
   | none => [])
def notIn (d : Option Nat) (l : List Nat) : Bool :=
  match d with
  | some d => l.all fun t => !(Nat.beq t d)
  | none => true
def diffD (d e : Option Nat) : Bool :=
  match d, e with
  | some d, some e => !(Nat.beq d e)
  | _, _ => true
/-- what the plan of a region keeps of an operation for the look at pairs -/
structure Row where
  dst : Option Nat
  looks : List Nat
  mem : Mem
  mask : Nat
def rowsOf (ops : Array Oper) : List Oper → List It → List Nat → List Row
  | o :: l, it :: is, m :: ms => ⟨it.dst, looks ops o, it.mem, m⟩ :: rowsOf ops l is ms
  | _, _, _ => []
def pairOk (nx i : Nat) (r : Row) (j : Nat) (q : Row) : Bool :=
  diffD r.dst q.dst && (Nat.testBit q.mask i || (notIn r.dst q.looks && (notIn q.dst r.looks && memIndep (nx + i) r.mem (nx + j) q.mem)))
def rowOk (nx i : Nat) (r : Row) : Nat → List Row → Bool
  | _, [] => true
  | j, q :: l => pairOk nx i r j q && rowOk nx i r (j + 1) l
def rowsOk (nx : Nat) : Nat → List Row → Bool
  | _, [] => true
  | i, r :: l => rowOk nx i r (i + 1) l && rowsOk nx (i + 1) l
def planOk (nx : Nat) (ops : Array Oper) (items : List It) : Bool :=
  edgesOk ops.toList 0 && rowsOk nx 0 (rowsOf ops ops.toList items (masks ops.toList []))

/-- from a number on each operation comes after all that stand before it -/
def fullOk (m : Nat) : Nat → List Nat → Bool
  | _, [] => true
  | k, x :: l => (bif Nat.ble m k then (List.range k).all (fun j => Nat.testBit x j) else true) && fullOk m (k + 1) l

def learn (c : Operand) (b : Bool) (s : St) : St :=
  match c with
  | .tmp t => bif Nat.ble s.n t then s else s.put (some t) (.bool b)
  | _ => s

def unroll : Nat → (St → (XE → St → Tree α) → Tree α) → St → (XE → St → Tree α) → Tree α
  | 0, _, _, _ => .fail
  | n + 1, body, s, K => body s fun e s' => match e with
    | .normal => unroll n body s' K
    | e => K e s'

/-- the first region's number: by which a loop is known -/
def keyOf : Code → Nat
  | .region id _ _ => id
  | .seq a _ => keyOf a
  | .block _ c => keyOf c
  | .loop c => keyOf c
  | .scope c => keyOf c
  | _ => 0

/-- what is known of a loop: its number, and the states in which it may end -/
abbrev LoopT := Nat → Option (St → Tree (XE × St))

def jumpOf : Code → Option XE
  | .ret => some .ret
  | .exit id => some (.exit id)
  | _ => none
def evC (pu : List (Nat × PureT)) (fn : FuncId) (u : Nat) (L : LoopT) : Code → St → (XE → St → Tree α) → Tree α
  | .skip, s, K => K .normal s
  | .region _ ops false, s, K => bif s.rd && !(ops.toList.all fun o => match o.op with | .defer _ => false | _ => true) then .fail else evOps P cT ops (List.range ops.size) s K
  | .region _ ops true, s, K => bif s.rd && !(ops.toList.all fun o => match o.op with | .defer _ => false | _ => true) then .fail else
      evPlan P pu s.nx ops (fun items s' =>
        bif planOk s.nx ops items && fullOk (lenA items) 0 (masks ops.toList []) then evOps P cT ops ((List.range ops.size).drop (lenA items)) s' K else .fail) (List.range ops.size) [] { s with nx := s.nx + ops.size }
  | .seq a b, s, K => evC pu fn u L a s fun e s' => match e with
    | .normal => evC pu fn u L b s' K
    | e => K e s'
  | .cond c a b, s, K => match s.eval c with
    | .bool x => bif x then evC pu fn u L a (learn c true s) K else evC pu fn u L b (learn c false s) K
    | _ => .fail
  | .block id c, s, K => evC pu fn u L c s fun e s' => match e with
    | .exit id' => bif Nat.beq id' id then K .normal s' else K (.exit id') s'
    | e => K e s'
  | .loop c, s, K => match L (keyOf c) with
    | some f => bif s.rd then .fail else (f s).bind fun x => K x.1 x.2
    | none => unroll u (fun s K => evC pu fn u L c s K) s K
  | .exit id, s, K => K (.exit id) s
  | .ret, s, K => K .ret s
  | .rangeFunc f params assign body, s, K => bif s.rd then .fail else match s.eval f with
    | .fn (.func gf) first captured =>
      cT (.fn gf) (first ++ [.yld (s.nx + 1)] ++ captured) (upd (upd s.hp s.nx (some .dfr)) (s.nx + 1) (some (.lp ⟨s.tm, s.n, fn, params.toList, assign, body, .ready, none, s.nx⟩))) (s.nx + 2) fun v hp nx => match v with
        | .ret _ => match hp (s.nx + 1) with
          | some (.lp r) => match r.st with
            | .busy => .fail
            | _ => match r.pend with
              | none => K .normal { s with hp := upd hp (s.nx + 1) none, nx := nx, df := .mark s.nx :: s.df }
              | some c => match jumpOf c with
                | some e => K e { s with hp := upd hp (s.nx + 1) none, nx := nx, df := .mark s.nx :: s.df }
                | none => .fail
          | _ => .fail
        | .pan x => K (.panic x) { s with hp := hp, nx := nx, df := .mark s.nx :: s.df }
    | _ => .fail
  | _, _, _ => .fail
end

/-- the values that a function hands back -/
def resultsA (P : Program) (s : St) : List ResultVar → Option (List AV)
  | [] => some []
  | .tmp t :: l => (resultsA P s l).map (s.tm t :: ·)
  | .cell a t :: l => match s.tm a, isAggT P t, sizeT P t with
    | .ptr id row st col, some agg, some n => match s.hp id with
      | some (.blk b) => bif agg then (bif Nat.ble (row * st + col + n) (lenA b.cs) then (resultsA P s l).map (.agg (takeA n (dropA (row * st + col) b.cs)) :: ·) else none)
          else match nth b.cs (row * st + col) with
            | some x => (resultsA P s l).map (x :: ·)
            | none => none
      | _ => none
    | _, _, _ => none
structure Ctx where
  P : Program
  u : Nat
  fns : List (Nat × Func)
  loops : List ((Nat × Nat) × (St → Tree (XE × St)))
  pures : List (Nat × PureT)
  specs : List (Nat × (Heap → Nat → List AV → Tree (Out × Heap × Nat)))
def assoc2 {β : Type} : List ((Nat × Nat) × β) → Nat → Nat → Option β
  | [], _, _ => none
  | (k, x) :: l, i, j => bif Nat.beq k.1 i && Nat.beq k.2 j then some x else assoc2 l i j
def frameOf : List AV → Nat → AV
  | [], _ => .val undef
  | x :: _, 0 => x
  | _ :: l, n + 1 => frameOf l n

def isFn (X : Ctx) (f : Nat) : Bool := match assoc X.fns f with
  | some _ => true
  | none => false
def pairs2 : List Nat → List AV → (Nat → AV) → Nat → AV
  | p :: ps, x :: xs, tm => pairs2 ps xs (upd tm p x)
  | _, _, tm => tm

section
variable {α : Type} (X : Ctx)
/-- the deferred calls of a function that returns: the marks of loops over functions alone, and calls that do not ask what panicked -/
def evLeave (cT : CallT α) : List DfA → Heap → Nat → (Heap → Nat → Tree α) → Tree α
  | [], hp, nx, K => K hp nx
  | .mark id :: l, hp, nx, K => match hp id with
    | some .dfr => evLeave cT l (upd hp id none) nx K
    | _ => .fail
  | .call _ _ _ :: _, _, _, _ => .fail
end

def evFn {α : Type} (X : Ctx) : Nat → CallT α
  | 0, _, _, _, _, _ => .fail
  | m + 1, .fn f, args, hp, nx, K =>
    match (assoc X.pures f).bind (fun g => (g.run (args.map (toRO X.P hp))).map fun r => (g.flat, r)) with
    | some (fl, c, x) => bif c then K (.ret x) (bif fl then hp else drop1 hp (args.flatMap idsOf)) nx else .fail
    | none =>
    match assoc X.specs f with
    | some c => (c hp nx args).bind fun r => K r.1 r.2.1 r.2.2
    | none =>
      match assoc X.fns f with
      | none => .fail
      | some fn =>
        match fn.body with
        | none => .fail
        | some c =>
          bif Nat.ble (lenA args) fn.ntmps then
            evC X.P (evFn X m) X.pures f X.u (assoc2 X.loops f) c { tm := frameOf args, n := fn.ntmps, hp := hp, nx := nx, df := [], rd := false } fun e s =>
              match e with
              | .normal | .ret => evLeave (evFn X m) s.df s.hp s.nx fun hp' nx' => match resultsA X.P { s with hp := hp' } fn.results.toList with
                | some l => K (.ret (tupA l)) hp' nx'
                | none => .fail
              | .panic x => evLeave (evFn X m) s.df s.hp s.nx fun hp' nx' => K (.pan x) hp' nx'
              | .exit _ => .fail
          else .fail
  | m + 1, .yld id, args, hp, nx, K => match hp id with
    | some (.lp r) => match r.st with
      | .ready => bif Nat.beq (lenA args) (lenA r.params) && (r.params.all (fun p => Nat.blt p r.n) && isFn X r.fn) then
          evC X.P (evFn X m) X.pures r.fn X.u (fun _ => none) r.assign { tm := pairs2 r.params args r.tm, n := r.n, hp := hp, nx := nx, df := [], rd := true } fun e s => match e with
            | .normal => match s.hp id with
              | some (.lp r1) => match r1.st with
                | .ready => evC X.P (evFn X m) X.pures r.fn X.u (fun _ => none) r.body { s with hp := upd s.hp id (some (.lp { r1 with st := .busy })) } fun e s => match s.hp id with
                  | some (.lp r2) => match e with
                    | .normal => K (.ret (.bool true)) (upd s.hp id (some (.lp { r2 with st := .ready, pend := none }))) s.nx
                    | .ret => K (.ret (.bool false)) (upd s.hp id (some (.lp { r2 with st := .done, pend := some .ret }))) s.nx
                    | .exit i => K (.ret (.bool false)) (upd s.hp id (some (.lp { r2 with st := .done, pend := some (.exit i) }))) s.nx
                    | .panic x => match s.df with
                      | [] => K (.pan x) s.hp s.nx
                      | _ => .fail
                  | _ => .fail
                | _ => .fail
              | _ => .fail
            | _ => .fail
        else .fail
      | _ => .fail
    | _ => .fail
end V
end Go.Proofs.Ytmmhbianajpdgaa
