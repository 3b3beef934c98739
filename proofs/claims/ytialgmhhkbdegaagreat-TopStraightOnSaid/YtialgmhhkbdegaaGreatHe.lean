/- What the laws of boards use: great, wide, narrow, certain. -/
import Derived.Test.YtialgmhhkbdegaaGreatGn
import Derived.Test.YtialgmhhkbdegaaGreatHd
namespace Go.Proofs.YtialgmhhkbdegaaGreat
open Go.RowKit
namespace V
def greatF (b : TCT cB) : Bool := decide (bN b > 20) || (bOk b && (decide (cellsF b > 4) || decide (bN b > 3)))
abbrev s_great : PureT := spec [cB] [.b] (fun _ => true) (fun x => (greatF x.1, ()))
def T_great (b : TCT cB) : TB := bif decide (bN b > 20) then .leaf (true, ()) else bif boardF b == 0 then bif decide (cellsF b > 4) then .leaf (true, ()) else .leaf (decide (bN b > 3), ()) else .leaf (false, ())
theorem T_great_ok (b : TCT cB) : (T_great b).sat (fun y => y = (greatF b, ())) := by
  unfold T_great greatF boardF
  cases decide (bN b > 20) <;> cases bOk b <;> cases decide (cellsF b > 4) <;> exact rfl
def wideF (x : TCT cSc) : Bool := decide ((x.2.2.1.length : Int) > 10) || decide ((x.2.2.2.1.length : Int) > 10)
abbrev s_wide : PureT := spec [cSc] [.b] (fun _ => true) (fun x => (wideF x.1, ()))
def T_wide (x : TCT cSc) : TB := bif decide ((x.2.2.1.length : Int) > 10) then .leaf (true, ()) else .leaf (decide ((x.2.2.2.1.length : Int) > 10), ())
theorem T_wide_ok (x : TCT cSc) : (T_wide x).sat (fun y => y = (wideF x, ())) := by
  unfold T_wide wideF
  cases decide ((x.2.2.1.length : Int) > 10) <;> exact rfl
def insideF (c : TCT cC) (q : List Int) (a : Int) : TCT cC := bif decide (a + 1 ≥ (q.length : Int)) then c else cut c (getA q a.toNat (0 : Int)) (getA q (a + 1).toNat (0 : Int))
abbrev s_inside : PureT := spec [cC, .sl cU8, cI] [cC] (fun x => decide (0 ≤ x.2.2.1 ∧ x.2.2.1 ≤ 1000)) (fun x => (((insideF x.1 x.2.1 x.2.2.1).1, (insideF x.1 x.2.1 x.2.2.1).2.1, ()), ()))
def T_inside (c : TCT cC) (q : List Int) (a : Int) : Tree (TCTs [cC]) := bif decide (W64 (a + 1) ≥ (q.length : Int)) then .leaf ((c.1, c.2.1, ()), ()) else
  bif decide (0 ≤ a ∧ a < (q.length : Int)) then bif decide (0 ≤ W64 (a + 1) ∧ W64 (a + 1) < (q.length : Int)) then .leaf (((cut c (getA q a.toNat (0 : Int)) (getA q (W64 (a + 1)).toNat (0 : Int))).1, (cut c (getA q a.toNat (0 : Int)) (getA q (W64 (a + 1)).toNat (0 : Int))).2.1, ()), ()) else .fail else .fail
theorem T_inside_ok (c : TCT cC) (q : List Int) (a : Int) (h : 0 ≤ a ∧ a ≤ 1000) : (T_inside c q a).sat (fun y => y = (((insideF c q a).1, (insideF c q a).2.1, ()), ())) := by
  unfold T_inside insideF
  rw [W64_id (n := a + 1) (by omega) (by omega)]
  by_cases hc : a + 1 ≥ (q.length : Int)
  · rw [decide_eq_true hc]; exact rfl
  · rw [decide_eq_false hc, decide_eq_true (show 0 ≤ a ∧ a < (q.length : Int) by omega), decide_eq_true (show 0 ≤ a + 1 ∧ a + 1 < (q.length : Int) by omega)]
    exact rfl
abbrev c3 : TC := .st [cC, cC, cC]
def lowF (c : TCT cC) : TCT cC := (c.1, c.1, ())
def low3 (t : TCT c3) : TCT c3 := (lowF t.1, lowF t.2.1, lowF t.2.2.1, ())
def certainF (b : TCT cB) : TCT cB := (b.1, b.2.1, b.2.2.1, low3 b.2.2.2.1, low3 b.2.2.2.2.1, ())
abbrev s_certain : PureT := spec [cB] [cB] (fun _ => true) (fun x => (((certainF x.1).1, (certainF x.1).2.1, (certainF x.1).2.2.1, ((((certainF x.1).2.2.2.1).1.1, ((certainF x.1).2.2.2.1).1.2.1, ()), (((certainF x.1).2.2.2.1).2.1.1, ((certainF x.1).2.2.2.1).2.1.2.1, ()), (((certainF x.1).2.2.2.1).2.2.1.1, ((certainF x.1).2.2.2.1).2.2.1.2.1, ()), ()), ((((certainF x.1).2.2.2.2.1).1.1, ((certainF x.1).2.2.2.2.1).1.2.1, ()), (((certainF x.1).2.2.2.2.1).2.1.1, ((certainF x.1).2.2.2.2.1).2.1.2.1, ()), (((certainF x.1).2.2.2.2.1).2.2.1.1, ((certainF x.1).2.2.2.2.1).2.2.1.2.1, ()), ()), ()), ()))
def in3 (t : TCT c3) (q : List Int) (a : Int) : TCT c3 := (insideF t.1 q a, insideF t.2.1 q (a + 4), insideF t.2.2.1 q (a + 8), ())
def narrowF (b : TCT cB) (q : List Int) : TCT cB := (b.1, b.2.1, b.2.2.1, in3 b.2.2.2.1 q 0, in3 b.2.2.2.2.1 q 2, ())
def etaC (c : TCT cC) : TCT cC := (c.1, c.2.1, ())
def eta3 (t : TCT c3) : TCT c3 := (etaC t.1, etaC t.2.1, etaC t.2.2.1, ())
abbrev s_narrow : PureT := spec [cB, .sl cU8] [cB] (fun _ => true) (fun x => (((narrowF x.1 x.2.1).1, (narrowF x.1 x.2.1).2.1, (narrowF x.1 x.2.1).2.2.1, ((((narrowF x.1 x.2.1).2.2.2.1).1.1, ((narrowF x.1 x.2.1).2.2.2.1).1.2.1, ()), (((narrowF x.1 x.2.1).2.2.2.1).2.1.1, ((narrowF x.1 x.2.1).2.2.2.1).2.1.2.1, ()), (((narrowF x.1 x.2.1).2.2.2.1).2.2.1.1, ((narrowF x.1 x.2.1).2.2.2.1).2.2.1.2.1, ()), ()), ((((narrowF x.1 x.2.1).2.2.2.2.1).1.1, ((narrowF x.1 x.2.1).2.2.2.2.1).1.2.1, ()), (((narrowF x.1 x.2.1).2.2.2.2.1).2.1.1, ((narrowF x.1 x.2.1).2.2.2.2.1).2.1.2.1, ()), (((narrowF x.1 x.2.1).2.2.2.2.1).2.2.1.1, ((narrowF x.1 x.2.1).2.2.2.2.1).2.2.1.2.1, ()), ()), ()), ()))
abbrev cs_tacticsBounds : List TC := [cB, cSc, .sl cU8]
end V
end Go.Proofs.YtialgmhhkbdegaaGreat
