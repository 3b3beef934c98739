/- Tools for the laws of chapter 11: loops of a context, looks at lists. -/
import Derived.Test.YtgchccljmjmibaaBa
namespace Go.Proofs.Ytgchccljmjmibaa
open Go.RowKit
namespace V
theorem loops_none {P : Program} {f : Nat} {fn : Func} {loops : List ((Nat × Nat) × (St → Tree (XE × St)))} (h : loopsOf (bodyOf fn) = []) : ∀ d ∈ loopsOf (bodyOf fn), ∀ g, assoc2 loops f (keyOf d) = some g → LoopOk P f d g := by
  intro d hd
  rw [h] at hd
  cases hd
theorem loops_nil {P : Program} {loops : List ((Nat × Nat) × (St → Tree (XE × St)))} : ∀ q ∈ ([] : List (Nat × Func)), ∀ d ∈ loopsOf (bodyOf q.2), ∀ g, assoc2 loops q.1 (keyOf d) = some g → LoopOk P q.1 d g := fun _ h => nomatch h
theorem loops_cons {P : Program} {f : Nat} {fn : Func} {rest : List (Nat × Func)} {loops : List ((Nat × Nat) × (St → Tree (XE × St)))} (h : ∀ d ∈ loopsOf (bodyOf fn), ∀ g, assoc2 loops f (keyOf d) = some g → LoopOk P f d g)
    (hr : ∀ q ∈ rest, ∀ d ∈ loopsOf (bodyOf q.2), ∀ g, assoc2 loops q.1 (keyOf d) = some g → LoopOk P q.1 d g) : ∀ q ∈ (f, fn) :: rest, ∀ d ∈ loopsOf (bodyOf q.2), ∀ g, assoc2 loops q.1 (keyOf d) = some g → LoopOk P q.1 d g := by
  intro q hq
  rcases List.mem_cons.1 hq with rfl | hq
  · exact h
  · exact hr q hq
/-- the loops of one function: each by its key -/
def AllOk (P : Program) (f : Nat) (loops : List ((Nat × Nat) × (St → Tree (XE × St)))) : List Code → Prop
  | [] => True
  | d :: l => (∀ g, assoc2 loops f (keyOf d) = some g → LoopOk P f d g) ∧ AllOk P f loops l
theorem loops_of {P : Program} {f : Nat} {fn : Func} {loops : List ((Nat × Nat) × (St → Tree (XE × St)))} {ds : List Code} (h : loopsOf (bodyOf fn) = ds) (ha : AllOk P f loops ds) : ∀ d ∈ loopsOf (bodyOf fn), ∀ g, assoc2 loops f (keyOf d) = some g → LoopOk P f d g := by
  rw [h]
  clear h
  induction ds with
  | nil => intro d hd; cases hd
  | cons a l ih =>
    intro d hd
    rcases List.mem_cons.1 hd with rfl | hd
    · exact ha.1
    · exact ih ha.2 d hd
theorem one_key {P : Program} {f : Nat} {d : Code} {loops : List ((Nat × Nat) × (St → Tree (XE × St)))} {k : Nat} {s : St → Tree (XE × St)} (hk : keyOf d = k) (ha : assoc2 loops f k = some s) (h : LoopOk P f d s) : ∀ g, assoc2 loops f (keyOf d) = some g → LoopOk P f d g := by
  intro g hg
  rw [hk, ha] at hg
  cases hg
  exact h
theorem no_key {P : Program} {f : Nat} {d : Code} {loops : List ((Nat × Nat) × (St → Tree (XE × St)))} {k : Nat} (hk : keyOf d = k) (ha : assoc2 loops f k = none) : ∀ g, assoc2 loops f (keyOf d) = some g → LoopOk P f d g := by
  intro g hg
  rw [hk, ha] at hg
  cases hg
namespace Ev
/-- a look at a list, bounds checked -/
def inN {β : Type} (n : Nat) (i : Int) (t : Tree β) : Tree β := bif decide (0 ≤ i ∧ i < (n : Int)) then t else .fail
/-- a look at a list of one's own -/
def inO {β : Type} (n : Nat) (i : Int) (t : Tree β) : Tree β := bif decide (0 ≤ i ∧ i < (n : Int)) then bif decide (Int.toNat i < n) then t else .fail else .fail
/-- a list is made -/
def mkT {β : Type} (n : Int) (k : Tree β) : Tree β := bif decide (0 ≤ n ∧ n ≤ n ∧ n ≤ 65536 ∧ ((1 : Nat) : Int) * n ≤ 281474976710656) then k else .fail
end Ev
end V
end Go.Proofs.Ytgchccljmjmibaa
