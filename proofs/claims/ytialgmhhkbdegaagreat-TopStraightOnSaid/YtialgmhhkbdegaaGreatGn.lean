/- The reference's checks of boards and scenes. -/
import Derived.Test.YtialgmhhkbdegaaGreatGm
namespace Go.Proofs.YtialgmhhkbdegaaGreat
open Go.RowKit
namespace V
abbrev kB : List SK := [.d cI, .d cI, .d (.sl cI), .d cI, .d cI, .d cI, .d cI, .d cI, .d cI, .d cI, .d cI, .d cI, .d cI, .d cI, .d cI]
abbrev kX : List SK := [.d cI, .d cI, .d (.sl cI), .d (.sl .b)]
def brd' (x : SKTs kB) : TCT cB := (x.1, x.2.1, x.2.2.1, ((x.2.2.2.1, x.2.2.2.2.1, ()), (x.2.2.2.2.2.1, x.2.2.2.2.2.2.1, ()), (x.2.2.2.2.2.2.2.1, x.2.2.2.2.2.2.2.2.1, ()), ()), ((x.2.2.2.2.2.2.2.2.2.1, x.2.2.2.2.2.2.2.2.2.2.1, ()), (x.2.2.2.2.2.2.2.2.2.2.2.1, x.2.2.2.2.2.2.2.2.2.2.2.2.1, ()), (x.2.2.2.2.2.2.2.2.2.2.2.2.2.1, x.2.2.2.2.2.2.2.2.2.2.2.2.2.2.1, ()), ()), ())
def bB : BK := (0, 33, kB)
def L_rb : Lay := { keys := [1, 3], ks := [.p 0 0 0 0, .d cI], bs := [bB], n := 68, nx := 1000, marks := [] }
def R_rb : Lay := { keys := [1], ks := [.p 0 0 0 0], bs := [bB], n := 68, nx := 1000, marks := [] }
def Q_rb : Lay := { keys := [2], ks := [.d cI], bs := [], n := 68, nx := 1000, marks := [] }
def E_rb : XE → Lay
  | .ret => Q_rb
  | _ => R_rb
def hd_rb (x : SKTs kB) (i : Int) : L_rb.T := (((), i, ()), x, ())
def r_rb (_ : Nat) : Left' E_rb := ⟨.ret, ((2, ()), ())⟩
def e_rb (x : SKTs kB) : Left' E_rb := ⟨.exit 0, (((), ()), x, ())⟩
def st_rb (x : SKTs kB) (i : Int) : Tree (L_rb.T ⊕ Left' E_rb) :=
  bif decide (i < (x.2.2.1.length : Int)) then bif decide (0 ≤ i ∧ i < (x.2.2.1.length : Int)) then
    bif !cellOk (brd' x) (getA x.2.2.1 i.toNat (dflt cI)) then .leaf (.inr (r_rb 0)) else .leaf (.inl (hd_rb x (W64 (i + 1)))) else .fail else .leaf (.inr (e_rb x))
def fin_rb (g : L_rb.T) : Tree (Left' E_rb) := .br (decide (g.1.2.1 = 0)) (.br (g.2.1.2.2.1.any fun c => !cellOk (brd' g.2.1) c) (.leaf (r_rb 0)) (.leaf (e_rb g.2.1))) .fail
def bX : BK := (1, 36, kX)
def L_rs : Lay := { keys := [2, 3, 5], ks := [.p 0 0 0 0, .p 1 0 0 0, .d cI], bs := [bB, bX], n := 54, nx := 1000, marks := [] }
def R_rs : Lay := { keys := [], ks := [], bs := [], n := 54, nx := 1000, marks := [] }
def Q_rs : Lay := { keys := [4], ks := [.d .b], bs := [], n := 54, nx := 1000, marks := [] }
def E_rs : XE → Lay
  | .ret => Q_rs
  | _ => R_rs
def hd_rs (x : SKTs kB) (y : SKTs kX) (i : Int) : L_rs.T := (((), (), i, ()), x, y, ())
def r_rs (_ : Nat) : Left' E_rs := ⟨.ret, ((false, ()), ())⟩
def e_rs : Left' E_rs := ⟨.exit 0, ((), ())⟩
def st_rs (x : SKTs kB) (y : SKTs kX) (i : Int) : Tree (L_rs.T ⊕ Left' E_rs) :=
  bif decide (i < (y.2.2.1.length : Int)) then bif decide (0 ≤ i ∧ i < (y.2.2.1.length : Int)) then
    bif !cellOk (brd' x) (getA y.2.2.1 i.toNat (dflt cI)) then .leaf (.inr (r_rs 0)) else .leaf (.inl (hd_rs x y (W64 (i + 1)))) else .fail else .leaf (.inr e_rs)
def fin_rs (g : L_rs.T) : Tree (Left' E_rs) := .br (decide (g.1.2.2.1 = 0)) (.br (g.2.2.1.2.2.1.any fun c => !cellOk (brd' g.2.1) c) (.leaf (r_rs 0)) (.leaf e_rs)) .fail
def T_dim' (w l n : Int) (k : TI) : TI := bif decide (w < 1) then .leaf (2, ()) else bif decide (w > 3) then .leaf (2, ()) else bif decide (l < 1) then .leaf (2, ()) else bif decide (l > 3) then .leaf (2, ()) else
 bif decide (n < 1) then .leaf (2, ()) else bif decide (n > 6) then .leaf (2, ()) else k
theorem T_dim'_ok {w l n : Int} {k : TI} {R : Int × Unit → Prop} (h1 : dimOk w l n = true → k.sat R) (h2 : dimOk w l n = false → R (2, ())) : (T_dim' w l n k).sat R := by
  unfold T_dim'
  cases hd : dimOk w l n with
  | true =>
    have h := of_decide_eq_true hd
    rw [decide_eq_false (show ¬ w < 1 by omega), decide_eq_false (show ¬ w > 3 by omega), decide_eq_false (show ¬ l < 1 by omega), decide_eq_false (show ¬ l > 3 by omega), decide_eq_false (show ¬ n < 1 by omega), decide_eq_false (show ¬ n > 6 by omega)]
    exact h1 hd
  | false =>
    have h := of_decide_eq_false hd
    have q := h2 hd
    refine sat_cond (fun _ => q) fun h1 => sat_cond (fun _ => q) fun h2 => sat_cond (fun _ => q) fun h3 => sat_cond (fun _ => q) fun h4 => sat_cond (fun _ => q) fun h5 => sat_cond (fun _ => q) fun h6 => ?_
    have h1 := of_decide_eq_false h1
    have h2 := of_decide_eq_false h2
    have h3 := of_decide_eq_false h3
    have h4 := of_decide_eq_false h4
    have h5 := of_decide_eq_false h5
    have h6 := of_decide_eq_false h6
    omega
def T_rB (b : TCT cB) : TI := T_dim' b.1 b.2.1 (b.2.2.1.length : Int) (
 bif List.any b.2.2.1 (fun c => !cellOk b c) then .leaf (2, ()) else
 bif !validC (un b.2.2.2.1.1) then .leaf (2, ()) else
 bif !validC (un b.2.2.2.2.1.1) then .leaf (2, ()) else
 bif !validC (un b.2.2.2.1.2.1) then .leaf (2, ()) else
 bif !validC (un b.2.2.2.2.1.2.1) then .leaf (2, ()) else
 bif !validC (un b.2.2.2.1.2.2.1) then .leaf (2, ()) else
 bif !validC (un b.2.2.2.2.1.2.2.1) then .leaf (2, ()) else .leaf (0, ()))
theorem any_bad (b : TCT cB) (l : List Int) : List.any l (fun c => !cellOk b c) = !(l.all (cellOk b)) := by
  rw [List.any_eq_not_all_not]
  simp
theorem T_rB_ok (b : TCT cB) : (T_rB b).sat (fun y => y = (boardF b, ())) := by
  unfold T_rB boardF bOk runsOk
  rw [any_bad]
  refine T_dim'_ok (fun h => ?_) (fun h => ?_)
  · rw [h]
    cases List.all (b.2.2.1 : List Int) (cellOk b) <;> cases validC (un b.2.2.2.1.1) <;> cases validC (un b.2.2.2.1.2.1) <;> cases validC (un b.2.2.2.1.2.2.1) <;> cases validC (un b.2.2.2.2.1.1) <;> cases validC (un b.2.2.2.2.1.2.1) <;> cases validC (un b.2.2.2.2.1.2.2.1) <;> exact rfl
  · rw [h]; exact rfl
abbrev s_rscene : PureT := spec [cB, cSc] [.b] (fun _ => true) (fun x => (placeOk x.1 x.2.1, ()))
abbrev TB := Tree (Bool × Unit)
def T_rsc (b : TCT cB) (k : Bool) (h n m d : Int) (l : List Int) : TB := bif !k then .leaf (false, ()) else bif decide (h < 0) then .leaf (false, ()) else bif decide (h > n) then .leaf (false, ()) else bif decide (m > 2) then .leaf (false, ()) else bif d != m then .leaf (false, ()) else
  bif List.any l (fun c => !cellOk b c) then .leaf (false, ()) else .leaf (true, ())
theorem T_rsc_ok (b : TCT cB) (k : Bool) (h n m d : Int) (l : List Int) : (T_rsc b k h n m d l).sat (fun y => y = (k && (decide (0 ≤ h ∧ h ≤ n) && (decide (m ≤ 2) && (decide (d = m) && l.all (cellOk b)))), ())) := by
  unfold T_rsc
  rw [any_bad]
  cases k with
  | false => exact rfl
  | true =>
    by_cases h1 : h < 0
    · rw [decide_eq_true h1, decide_eq_false (show ¬ (0 ≤ h ∧ h ≤ n) by omega)]; exact rfl
    by_cases h2 : h > n
    · rw [decide_eq_false h1, decide_eq_true h2, decide_eq_false (show ¬ (0 ≤ h ∧ h ≤ n) by omega)]; exact rfl
    rw [decide_eq_false h1, decide_eq_false h2, decide_eq_true (show 0 ≤ h ∧ h ≤ n by omega)]
    by_cases h3 : m > 2
    · rw [decide_eq_true h3, decide_eq_false (show ¬ m ≤ 2 by omega)]; exact rfl
    rw [decide_eq_false h3, decide_eq_true (show m ≤ 2 by omega)]
    by_cases h4 : d = m
    · rw [show (d != m) = false by simpa using h4, decide_eq_true h4]
      cases l.all (cellOk b) <;> exact rfl
    · rw [show (d != m) = true by simpa using h4, decide_eq_false h4]; exact rfl
abbrev s_rScene : PureT := spec [cB, cSc] [cI] (fun _ => true) (fun x => (sceneE x.1 x.2.1, ()))
def T_rSc (b : TCT cB) (x : TCT cSc) : TI := bif boardF b != 0 then .leaf (boardF b, ()) else bif !placeOk b x then .leaf (3, ()) else .leaf (0, ())
theorem T_rSc_ok (b : TCT cB) (x : TCT cSc) : (T_rSc b x).sat (fun y => y = (sceneE b x, ())) := by
  unfold T_rSc sceneE
  rw [board0]
  unfold boardF
  cases bOk b <;> cases placeOk b x <;> exact rfl
end V
end Go.Proofs.YtialgmhhkbdegaaGreat
