/- The law TacticsLists: for all arguments it returns true. -/
import Derived.Test.YtialgmhhkbdegaaGreatHb
namespace Go.Proofs.YtialgmhhkbdegaaGreat
open Go.RowKit
namespace V
abbrev cU8 : TC := .i .u8
def L_tl : Lay := { keys := [0, 1, 5, 7, 9, 11, 12], ks := [.d cCs, .d (.sl cU8), .p 0 0 0 0, .p 1 0 0 0, .p 2 0 0 0, .o 30 cC, .d cI], bs := [bC 0, bC 1, bC 2], n := 217, nx := 1000, marks := [] }
def R_tl : Lay := { keys := [0, 5, 7, 9, 11], ks := [.d cCs, .p 0 0 0 0, .p 1 0 0 0, .p 2 0 0 0, .o 30 cC], bs := [bC 0, bC 1, bC 2], n := 217, nx := 1000, marks := [] }
def E_tl : XE → Lay := fun _ => R_tl
def B3 : Type := TCT cC × TCT cC × TCT cC × Unit
def hd_tl (b : BTs L_tl.bs) (l : List (TCT cC)) (q : List Int) (i : Int) (o : List (TCT cC)) : L_tl.T := ((l, q, (), (), (), o, i, ()), b)
def ex_tl (b : BTs L_tl.bs) (l : List (TCT cC)) (o : List (TCT cC)) : Left' E_tl := ⟨.exit 0, ((l, (), (), (), o, ()), b)⟩
abbrev s_within : PureT := spec [cC, cC] [.b] (fun _ => true) (fun x => (decide (x.2.1.1 ≤ x.1.1) && decide (x.1.2.1 ≤ x.2.1.2.1), ()))
def T_within (a b c d : Int) : Tree (Bool × Unit) := bif decide (c ≤ a) then .leaf (decide (b ≤ d), ()) else .leaf (false, ())
theorem T_within_ok (a b c d : Int) : (T_within a b c d).sat (fun y => y = (decide (c ≤ a) && decide (b ≤ d), ())) := by
  unfold T_within
  cases decide (c ≤ a) <;> exact rfl
def sc (w p : Int) : Int := W64 (Int.tdiv (W64 (w * W64 p)) 255)
def cut (x : TCT cC) (p q : Int) : TCT cC := (W64 (x.1 + min (sc (W64 (x.2.1 - x.1)) p) (sc (W64 (x.2.1 - x.1)) q)), W64 (x.1 + max (sc (W64 (x.2.1 - x.1)) p) (sc (W64 (x.2.1 - x.1)) q)), ())
def iA (i : Int) : Int := W64 (2 * i)
def iB (i : Int) : Int := W64 (W64 (2 * i) + 1)
def eC (q : List Int) (i : Int) (x : TCT cC) : TCT cC := bif decide (iB i < (q.length : Int)) then cut x (getA q (iA i).toNat (0 : Int)) (getA q (iB i).toNat (0 : Int)) else x
def body_tl (b : BTs L_tl.bs) (l : List (TCT cC)) (q : List Int) (x : TCT cC) (i : Int) (o : List (TCT cC)) : Tree (L_tl.T ⊕ Left' E_tl) :=
  bif decide (iB i < (q.length : Int)) then bif decide (0 ≤ iA i ∧ iA i < (q.length : Int)) then bif decide (0 ≤ iB i ∧ iB i < (q.length : Int)) then
    bif decide (0 ≤ i ∧ i < (l.length : Int)) then bif decide (0 ≤ i ∧ i < (l.length : Int)) then
    bif appOk o [cut x (getA q (iA i).toNat (0 : Int)) (getA q (iB i).toNat (0 : Int))] 16 then .leaf (.inl (hd_tl b l q (W64 (i + 1)) (o ++ [cut x (getA q (iA i).toNat (0 : Int)) (getA q (iB i).toNat (0 : Int))]))) else .fail else .fail else .fail else .fail else .fail
  else bif appOk o [x] 16 then .leaf (.inl (hd_tl b l q (W64 (i + 1)) (o ++ [x]))) else .fail
def st_tl (b : BTs L_tl.bs) (l : List (TCT cC)) (q : List Int) (i : Int) (o : List (TCT cC)) : Tree (L_tl.T ⊕ Left' E_tl) :=
  bif decide (i < (l.length : Int)) then bif decide (0 ≤ i ∧ i < (l.length : Int)) then body_tl b l q (getA l i.toNat (dflt cC)) i o else .fail else .leaf (.inr (ex_tl b l o))
def gF (q : List Int) (s : List (TCT cC)) (x : TCT cC) : List (TCT cC) := s ++ [eC q s.length x]
def mF (q : List Int) (l : List (TCT cC)) : List (TCT cC) := l.foldl (gF q) []
def fin_tl (g : L_tl.T) : Tree (Left' E_tl) :=
  .br (decide (g.1.2.2.2.2.2.2.1 = 0) && (shortL g.1.1 && isNil g.1.2.2.2.2.2.1)) (.leaf (ex_tl g.2 g.1.1 (mF g.1.2.1 g.1.1))) .fail
theorem iAB {i : Int} (h0 : 0 ≤ i) (h : i ≤ 1000) : iA i = 2 * i ∧ iB i = 2 * i + 1 := by
  unfold iA iB
  rw [W64_id (n := 2 * i) (by omega) (by omega), W64_id (n := 2 * i + 1) (by omega) (by omega)]
  exact ⟨rfl, rfl⟩
end V
end Go.Proofs.YtialgmhhkbdegaaGreat
