/- Leave: the loop that looks for the least value. -/
import Derived.Test.YtialgmhhkbdegaaGreatJa
namespace Go.Proofs.YtialgmhhkbdegaaGreat
open Go.RowKit
namespace V
structure Cf where
  v1 : Int
  v2 : Int
  e : Int
  vs : List (TCT cC)
abbrev Sf : Type := Int × Bool × Int
def nF (vs : List (TCT cC)) (i : Int) : Int := W64 (0 - (getA vs i.toNat (dflt cC)).2.1)
def stepI (vs : List (TCT cC)) (s : Sf) (i : Int) : Sf := bif !s.2.1 then (i, true, nF vs i) else bif decide (nF vs i > s.2.2) then (i, true, nF vs i) else s
theorem foldO_some {S α : Type} (g : S → α → S) : ∀ (l : List α) (s : S), foldO (fun s x => some (g s x)) s l = some (l.foldl g s)
  | [], _ => rfl
  | x :: l, s => by simp only [foldO, Option.bind_some, List.foldl_cons]; exact foldO_some g l (g s x)
def allI (vs : List (TCT cC)) (s : Sf) : Sf := (List.range vs.length).foldl (fun s (k : Nat) => stepI vs s (k : Int)) s
def okI (n i : Int) (vs : List (TCT cC)) : Bool := decide (i = 0 ∧ n = (vs.length : Int) ∧ vs.length ≤ 1000)
/-! Leave -/
abbrev TLv := Tree (TCTs [cI, cC, cI])
def bad_Lv (e : Int) : TLv := .leaf (0, (0, 0, ()), e, ())
def vs_Lv (b : TCT cB) (l : List (TCT cSc)) : List (TCT cC) := (gX s0_lv (all_lv b l ([], no0))).1
def at_Lv (vs : List (TCT cC)) : Int := (allI vs (0, false, 0)).1
end V
end Go.Proofs.YtialgmhhkbdegaaGreat
