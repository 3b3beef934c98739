/- Chapter 11: Order of both; numbers of a draw's lots. -/
import Derived.Test.YtgchccljmjmibaaFa
namespace Go.Proofs.Ytgchccljmjmibaa
open Go.RowKit
namespace V
namespace Ev
def orV (n : Int) : List Int × Int := bif !powB n then ([], 3) else (ordT n.toNat, 0)
abbrev s_Order : PureT := spec [cI] [.sl cI, cI] (fun _ => true) (fun x => ((orV x.1).1, (orV x.1).2, ()))
noncomputable def plOd : List (Nat × PureT) := (56, s_ord) :: (61, s_ord) :: plDr
theorem puOd : PuOk Try.prog plOd := puOk_cons is_eord.plain q_eord (puOk_cons is_rord.plain q_rord puDr)
abbrev TOr := Tree (TCTs [.sl cI, cI])
def T_rOr (n : Int) : TOr := bif !powB n then .leaf ([], 3, ()) else bif powB n then .leaf (ordT n.toNat, 0, ()) else .fail
theorem q_rOrder : PureOk Try.prog 24 s_Order := q_by (ctx_ok mixed puOd (fns_cons is_rOrd fns_nil)) 6 (fun x => T_rOr x.1) (fun x => by kernel_rfl) fun x _ _ => by
  show (T_rOr x.1).sat _
  unfold T_rOr orV
  cases powB x.1 <;> exact rfl
def Q_eOr (n : Int) : TOr := bif powB n then .leaf (ordT n.toNat, 0, ()) else .fail
def T_eOr (n : Int) : TOr := bif decide (n < 1) then .leaf ([], 3, ()) else bif decide (n > 64) then .leaf ([], 3, ()) else bif decide (0 ≤ IntKind.wrap .u64 n ∧ IntKind.wrap .u64 n ≤ 64) then (bif pcF (Int.toNat (IntKind.wrap .u64 n)) != 1 then .leaf ([], 3, ()) else Q_eOr n) else .fail
theorem pow_in {n : Int} (h : powB n = true) : 1 ≤ n ∧ n ≤ 64 := by rcases pow_cases h with rfl | rfl | rfl | rfl | rfl | rfl | rfl <;> decide
theorem pc_pow1 : ∀ n : Nat, n ≤ 64 → 1 ≤ n → (pcF n != 1) = !powB (n : Int) := by decide +kernel
theorem T_eOr_ok (n : Int) : (T_eOr n).sat (fun y => y = ((orV n).1, (orV n).2, ())) := by
  unfold T_eOr orV
  refine sat_cond (fun h => ?_) (fun h => sat_cond (fun h2 => ?_) (fun h2 => ?_))
  · rw [show powB n = false by rw [Bool.eq_false_iff]; intro h2; have := pow_in h2; have := of_decide_eq_true h; omega]; exact rfl
  · rw [show powB n = false by rw [Bool.eq_false_iff]; intro h3; have := pow_in h3; have := of_decide_eq_true h2; omega]; exact rfl
  · have h := of_decide_eq_false h
    have h2 := of_decide_eq_false h2
    rw [wrapU (n := n) (by omega) (by omega)]
    refine sat_must (decide_eq_true (by omega)) ?_
    have := pc_pow1 n.toNat (by omega) (by omega)
    rw [show ((n.toNat : Nat) : Int) = n by omega] at this
    rw [this]
    unfold Q_eOr
    cases powB n <;> exact rfl
theorem q_eOrder : PureOk Try.prog 23 s_Order := q_by (ctx_ok mixed puOd (fns_cons is_eOrd fns_nil)) 6 (fun x => T_eOr x.1) (fun x => by kernel_rfl) fun x _ _ => T_eOr_ok x.1
/-! lots -/
theorem is_dr1 : FnIs Try.prog (55, Try.f55) := ⟨Try.func55, by kernel_rfl, by kernel_rfl⟩
abbrev s_dr1 : PureT := spec [cI] [.b] (fun _ => true) (fun x => (decide ((x.1 : Int) < 0), ()))
theorem q_dr1 : PureOk Try.prog 55 s_dr1 := q_leaf (ctx_ok mixed puOk_nil (fns_cons is_dr1 fns_nil)) 3 (fun _ => by kernel_rfl)
noncomputable def plLt : List (Nat × PureT) := [(55, s_dr1)]
theorem puLt : PuOk Try.prog plLt := puOk_cons is_dr1.plain q_dr1 puOk_nil

/-! Lot: a list has an element of a kind -/
theorem is_ixLot : FnIs Try.prog (90, Try.f90) := ⟨Try.func90, by kernel_rfl, by kernel_rfl⟩
theorem is_cfLot : FnIs Try.prog (54, Try.f54) := ⟨Try.func54, by kernel_rfl, by kernel_rfl⟩
abbrev ck_Lot : List SK := []
def p_Lot (k : SKTs ck_Lot) (x : TCT (cI)) : Bool := decide ((x : Int) < 0)
noncomputable def lb_ixLot : Code := (loopsOf (bodyOf Try.f90)).getD 0 .skip
def L_ixLot : Lay := { keys := [0, 1, 7, 8], ks := [.d (.sl (cI)), .f 55 [] ck_Lot, .d cI, .d cI], bs := [], n := 19, nx := 1000, marks := [] }
def Rr_ixLot : Lay := { keys := [4], ks := [.d cI], bs := [], n := 19, nx := 1000, marks := [] }
def Re_ixLot : Lay := { keys := [], ks := [], bs := [], n := 19, nx := 1000, marks := [] }
def E_ixLot : XE → Lay
  | .ret => Rr_ixLot
  | _ => Re_ixLot
def hd_ixLot (k : SKTs ck_Lot) (l : List (TCT (cI))) (n i : Int) : L_ixLot.T := ((l, ((), k), n, i, ()), ())
def r_ixLot (i : Int) : Left' E_ixLot := ⟨.ret, ((i, ()), ())⟩
def e_ixLot : Left' E_ixLot := ⟨.exit 0, ((), ())⟩
def body_ixLot (k : SKTs ck_Lot) (l : List (TCT (cI))) (n : Int) (x : TCT (cI)) (i : Int) : Tree (L_ixLot.T ⊕ Left' E_ixLot) := bif p_Lot k x then .leaf (.inr (r_ixLot i)) else .leaf (.inl (hd_ixLot k l n (W64 (i + 1))))
def st_ixLot (k : SKTs ck_Lot) (l : List (TCT (cI))) (n i : Int) : Tree (L_ixLot.T ⊕ Left' E_ixLot) :=
  bif decide (i < n) then bif decide (0 ≤ i ∧ i < (l.length : Int)) then body_ixLot k l n (getA l i.toNat (dflt (cI))) i else .fail else .leaf (.inr e_ixLot)
def fin_ixLot (g : L_ixLot.T) : Tree (Left' E_ixLot) :=
  .br (atHead g.1.2.2.1 g.1.2.2.2.1 g.1.1) (.br (g.1.1.any (p_Lot g.1.2.1.2)) (.leaf (r_ixLot (g.1.1.findIdx (p_Lot g.1.2.1.2)))) (.leaf e_ixLot)) .fail
theorem l_ixLot : LoopOk Try.prog 90 lb_ixLot (loopSum L_ixLot E_ixLot fin_ixLot) := by
  refine loopOk_of (X := ctx Try.prog plLt []) (ctx_ok mixed puLt fns_nil) 7 90 (fun _ => none) (fun _ _ f h => by simp at h) L_ixLot E_ixLot (fun e => by cases e <;> exact Nat.le_refl _) fin_ixLot (fun g => st_ixLot g.1.2.1.2 g.1.1 g.1.2.2.1 g.1.2.2.2.1) (fun g => by kernel_rfl) ?_
  rintro ⟨⟨l, ⟨⟨⟩, k⟩, n, i, ⟨⟩⟩, ⟨⟩⟩ R hw hf
  obtain ⟨hf, h0⟩ := hf
  by_cases hc : n = (l.length : Int) ∧ i = 0
  · obtain ⟨rfl, rfl⟩ := hc
    have hf := hf (decide_eq_true ⟨rfl, rfl⟩)
    refine forL l (dflt (cI)) (wfl_len hw.1.1) (fun n i _ => hd_ixLot k l n i) (fun x i (_ : Unit) => bif p_Lot k x then .inr (r_ixLot i) else .inl ()) (fun _ => e_ixLot) (fun _ => True) (fun x i _ => body_ixLot k l l.length x i) (fun i _ => rfl) ?_ () trivial ?_
    · intro i _ hi Q _ _ hw1 hQ
      show (body_ixLot k l l.length l[i] i).sat Q
      unfold body_ixLot
      rw [hw1]
      cases hp : p_Lot k l[i] with
      | true => rw [hp] at hQ; exact hQ
      | false => rw [hp] at hQ; exact hQ trivial
    · rw [run_any (p_Lot k) (fun i => r_ixLot i) e_ixLot l 0, Nat.zero_add]
      cases ha : l.any (p_Lot k) with
      | true => exact hf.1 ha
      | false => exact hf.2 ha
  · exact (h0 (decide_eq_false hc)).elim
abbrev s_ixLot : PureT := kspec [.d (.sl (cI)), .f 55 [] ck_Lot] [cI] (fun _ => true) (fun x => (bif x.1.any (p_Lot x.2.1.2) then (x.1.findIdx (p_Lot x.2.1.2) : Int) else -1, ()))
noncomputable def X_ixLot : Ctx := ctxL Try.prog plLt [(90, Try.f90)] [((90, keyOf lb_ixLot), loopSum L_ixLot E_ixLot fin_ixLot)]
theorem X_ixLot_ok : CtxOk X_ixLot := ctxL_ok mixed puLt (fns_cons is_ixLot fns_nil) (loops_one rfl (by kernel_rfl) l_ixLot)
def T_ixLot (k : SKTs ck_Lot) (l : List (TCT (cI))) : Tree (Int × Unit) := bif atHead (l.length : Int) 0 l then bif l.any (p_Lot k) then .leaf ((l.findIdx (p_Lot k) : Int), ()) else .leaf (-1, ()) else .fail
theorem T_ixLot_ok (k : SKTs ck_Lot) (l : List (TCT (cI))) : (T_ixLot k l).sat (fun y => y = (bif l.any (p_Lot k) then (l.findIdx (p_Lot k) : Int) else -1, ())) := by
  refine sat_must (decide_eq_true ⟨rfl, rfl⟩) ?_
  cases l.any (p_Lot k) <;> exact rfl
theorem q_ixLot : PureOk Try.prog 90 s_ixLot := kq_by X_ixLot_ok 8 (fun x => T_ixLot x.2.1.2 x.1) (fun x => by kernel_rfl) fun x _ _ => T_ixLot_ok _ _
abbrev s_cfLot : PureT := kspec [.d (.sl (cI)), .f 55 [] ck_Lot] [.b] (fun _ => true) (fun x => (x.1.any (p_Lot x.2.1.2), ()))
theorem any_idxLot (k : SKTs ck_Lot) (l : List (TCT (cI))) : (Tree.leaf (decide ((bif l.any (p_Lot k) then (l.findIdx (p_Lot k) : Int) else -1) ≥ 0), ()) : Tree (Bool × Unit)).sat (fun y => y = (l.any (p_Lot k), ())) := by
  rw [any_idx]; exact rfl
theorem q_cfLot : PureOk Try.prog 54 s_cfLot := kq_by (ctx_ok mixed (puOk_cons is_ixLot.plain q_ixLot puOk_nil) (fns_cons is_cfLot fns_nil)) 8 (fun x => .leaf (decide ((bif x.1.any (p_Lot x.2.1.2) then (x.1.findIdx (p_Lot x.2.1.2) : Int) else -1) ≥ 0), ())) (fun x => by kernel_rfl) fun x _ _ => any_idxLot _ _
end Ev
end V
end Go.Proofs.Ytgchccljmjmibaa
