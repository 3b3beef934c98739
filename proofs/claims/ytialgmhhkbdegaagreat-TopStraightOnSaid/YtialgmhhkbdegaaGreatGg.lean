/- Boards: CheckBoard and its reference. -/
import Derived.Test.YtialgmhhkbdegaaGreatGf
namespace Go.Proofs.YtialgmhhkbdegaaGreat
open Go.RowKit
namespace V
abbrev s_noCell : PureT := kspec [.d cI, .r cB 0] [.b] (fun _ => true) (fun x => (!cellOk x.2.1 x.1, ()))
def T_noCell (b : TCT cB) (c : Int) : Tree (Bool × Unit) := bif decide (c < 0) then .leaf (true, ()) else .leaf (decide (c ≥ W64 (b.1 * b.2.1)), ())
theorem T_noCell_ok (b : TCT cB) (c : Int) : (T_noCell b c).sat (fun y => y = (!cellOk b c, ())) := by
  unfold T_noCell cellOk cellsF
  refine sat_cond (fun h => ?_) fun h => ?_
  · have := of_decide_eq_true h
    rw [decide_eq_false (show ¬ (0 ≤ c ∧ c < W64 (b.1 * b.2.1)) by omega)]; exact rfl
  · have h := of_decide_eq_false h
    refine sat_leaf ?_
    rw [← decide_not]; congr 1; apply decide_eq_decide.2; omega
theorem q_noCell : PureOk Tryz.prog 43 s_noCell := kq_by (ctx_ok mixed puOk_nil (fns_cons is_tBoard1 fns_nil)) 4 (fun x => T_noCell x.2.1 x.1) (fun x => by kernel_rfl) fun x _ _ => T_noCell_ok x.2.1 x.1
def plNc : List (Nat × PureT) := [(43, s_noCell)]
theorem puNc : PuOk Tryz.prog plNc := puOk_cons is_tBoard1.plain q_noCell puOk_nil

/-! Nc: a list has an element of a kind -/
abbrev is_ixNc := is_ixInt
abbrev is_cfNc := is_cfInt
abbrev ck_Nc : List SK := [.r cB 0]
def p_Nc (k : SKTs ck_Nc) (x : TCT (cI)) : Bool := !cellOk k.1 x
noncomputable def lb_ixNc : Code := (loopsOf (bodyOf Tryz.f62)).getD 0 .skip
def L_ixNc : Lay := { keys := [0, 1, 7, 8], ks := [.d (.sl (cI)), .f 43 [] ck_Nc, .d cI, .d cI], bs := [], n := 19, nx := 1000, marks := [] }
def Rr_ixNc : Lay := { keys := [4], ks := [.d cI], bs := [], n := 19, nx := 1000, marks := [] }
def Re_ixNc : Lay := { keys := [], ks := [], bs := [], n := 19, nx := 1000, marks := [] }
def E_ixNc : XE → Lay
  | .ret => Rr_ixNc
  | _ => Re_ixNc
def hd_ixNc (k : SKTs ck_Nc) (l : List (TCT (cI))) (n i : Int) : L_ixNc.T := ((l, ((), k), n, i, ()), ())
def r_ixNc (i : Int) : Left' E_ixNc := ⟨.ret, ((i, ()), ())⟩
def e_ixNc : Left' E_ixNc := ⟨.exit 0, ((), ())⟩
def body_ixNc (k : SKTs ck_Nc) (l : List (TCT (cI))) (n : Int) (x : TCT (cI)) (i : Int) : Tree (L_ixNc.T ⊕ Left' E_ixNc) := bif p_Nc k x then .leaf (.inr (r_ixNc i)) else .leaf (.inl (hd_ixNc k l n (W64 (i + 1))))
def st_ixNc (k : SKTs ck_Nc) (l : List (TCT (cI))) (n i : Int) : Tree (L_ixNc.T ⊕ Left' E_ixNc) :=
  bif decide (i < n) then bif decide (0 ≤ i ∧ i < (l.length : Int)) then body_ixNc k l n (getA l i.toNat (dflt (cI))) i else .fail else .leaf (.inr e_ixNc)
def fin_ixNc (g : L_ixNc.T) : Tree (Left' E_ixNc) :=
  .br (atHead g.1.2.2.1 g.1.2.2.2.1 g.1.1) (.br (g.1.1.any (p_Nc g.1.2.1.2)) (.leaf (r_ixNc (g.1.1.findIdx (p_Nc g.1.2.1.2)))) (.leaf e_ixNc)) .fail
theorem l_ixNc : LoopOk Tryz.prog 62 lb_ixNc (loopSum L_ixNc E_ixNc fin_ixNc) := by
  refine loopOk_of (X := ctx Tryz.prog plNc []) (ctx_ok mixed puNc fns_nil) 7 62 (fun _ => none) (fun _ _ f h => by simp at h) L_ixNc E_ixNc (fun e => by cases e <;> exact Nat.le_refl _) fin_ixNc (fun g => st_ixNc g.1.2.1.2 g.1.1 g.1.2.2.1 g.1.2.2.2.1) (fun g => by kernel_rfl) ?_
  rintro ⟨⟨l, ⟨⟨⟩, k⟩, n, i, ⟨⟩⟩, ⟨⟩⟩ R hw hf
  obtain ⟨hf, h0⟩ := hf
  by_cases hc : n = (l.length : Int) ∧ i = 0
  · obtain ⟨rfl, rfl⟩ := hc
    have hf := hf (decide_eq_true ⟨rfl, rfl⟩)
    refine forL l (dflt (cI)) (wfl_len hw.1.1) (fun n i _ => hd_ixNc k l n i) (fun x i (_ : Unit) => bif p_Nc k x then .inr (r_ixNc i) else .inl ()) (fun _ => e_ixNc) (fun _ => True) (fun x i _ => body_ixNc k l l.length x i) (fun i _ => rfl) ?_ () trivial ?_
    · intro i _ hi Q _ _ hw1 hQ
      show (body_ixNc k l l.length l[i] i).sat Q
      unfold body_ixNc
      rw [hw1]
      cases hp : p_Nc k l[i] with
      | true => rw [hp] at hQ; exact hQ
      | false => rw [hp] at hQ; exact hQ trivial
    · rw [run_any (p_Nc k) (fun i => r_ixNc i) e_ixNc l 0, Nat.zero_add]
      cases ha : l.any (p_Nc k) with
      | true => exact hf.1 ha
      | false => exact hf.2 ha
  · exact (h0 (decide_eq_false hc)).elim
abbrev s_ixNc : PureT := kspec [.d (.sl (cI)), .f 43 [] ck_Nc] [cI] (fun _ => true) (fun x => (bif x.1.any (p_Nc x.2.1.2) then (x.1.findIdx (p_Nc x.2.1.2) : Int) else -1, ()))
noncomputable def X_ixNc : Ctx := ctxL Tryz.prog plNc [(62, Tryz.f62)] [((62, keyOf lb_ixNc), loopSum L_ixNc E_ixNc fin_ixNc)]
theorem X_ixNc_ok : CtxOk X_ixNc := ctxL_ok mixed puNc (fns_cons is_ixNc fns_nil) (loops_one rfl (by kernel_rfl) l_ixNc)
def T_ixNc (k : SKTs ck_Nc) (l : List (TCT (cI))) : Tree (Int × Unit) := bif atHead (l.length : Int) 0 l then bif l.any (p_Nc k) then .leaf ((l.findIdx (p_Nc k) : Int), ()) else .leaf (-1, ()) else .fail
theorem T_ixNc_ok (k : SKTs ck_Nc) (l : List (TCT (cI))) : (T_ixNc k l).sat (fun y => y = (bif l.any (p_Nc k) then (l.findIdx (p_Nc k) : Int) else -1, ())) := by
  refine sat_must (decide_eq_true ⟨rfl, rfl⟩) ?_
  cases l.any (p_Nc k) <;> exact rfl
theorem q_ixNc : PureOk Tryz.prog 62 s_ixNc := kq_by X_ixNc_ok 8 (fun x => T_ixNc x.2.1.2 x.1) (fun x => by kernel_rfl) fun x _ _ => T_ixNc_ok _ _
abbrev s_cfNc : PureT := kspec [.d (.sl (cI)), .f 43 [] ck_Nc] [.b] (fun _ => true) (fun x => (x.1.any (p_Nc x.2.1.2), ()))
theorem any_idxNc (k : SKTs ck_Nc) (l : List (TCT (cI))) : (Tree.leaf (decide ((bif l.any (p_Nc k) then (l.findIdx (p_Nc k) : Int) else -1) ≥ 0), ()) : Tree (Bool × Unit)).sat (fun y => y = (l.any (p_Nc k), ())) := by
  rw [any_idx]; exact rfl
theorem q_cfNc : PureOk Tryz.prog 44 s_cfNc := kq_by (ctx_ok mixed (puOk_cons is_ixNc.plain q_ixNc puOk_nil) (fns_cons is_cfNc fns_nil)) 8 (fun x => .leaf (decide ((bif x.1.any (p_Nc x.2.1.2) then (x.1.findIdx (p_Nc x.2.1.2) : Int) else -1) ≥ 0), ())) (fun x => by kernel_rfl) fun x _ _ => any_idxNc _ _
/-! what a valid board is -/
def runsOk (t : TCT (.st [cC, cC, cC])) : Bool := validC (un t.1) && (validC (un t.2.1) && validC (un t.2.2.1))
def dimOk (w l n : Int) : Bool := decide (1 ≤ w ∧ w ≤ 3 ∧ 1 ≤ l ∧ l ≤ 3 ∧ 1 ≤ n ∧ n ≤ 6)
def bOk (b : TCT cB) : Bool := dimOk b.1 b.2.1 (b.2.2.1.length : Int) && (b.2.2.1.all (cellOk b) && (runsOk b.2.2.2.1 && runsOk b.2.2.2.2.1))
def boardF (b : TCT cB) : Int := bif bOk b then 0 else 2
abbrev s_Board : PureT := spec [cB] [cI] (fun _ => true) (fun x => (boardF x.1, ()))
abbrev TI := Tree (Int × Unit)
def T_dim (w l n : Int) (k : TI) : TI := bif decide (min w l < 1) then .leaf (2, ()) else
 bif decide (max w l > 3) then .leaf (2, ()) else
 bif n == 0 then .leaf (2, ()) else
 bif decide (n > 6) then .leaf (2, ()) else k
theorem T_dim_ok {w l n : Int} {k : TI} {R : Int × Unit → Prop} (hn : 0 ≤ n) (h1 : dimOk w l n = true → k.sat R) (h2 : dimOk w l n = false → R (2, ())) : (T_dim w l n k).sat R := by
  unfold T_dim
  cases hd : dimOk w l n with
  | true =>
    have h := of_decide_eq_true hd
    rw [decide_eq_false (show ¬ min w l < 1 by omega), decide_eq_false (show ¬ max w l > 3 by omega), show (n == 0) = false by simp; omega, decide_eq_false (show ¬ n > 6 by omega)]
    exact h1 hd
  | false =>
    have h := of_decide_eq_false hd
    have q := h2 hd
    refine sat_cond (fun _ => q) fun h1 => sat_cond (fun _ => q) fun h2 => sat_cond (fun _ => q) fun h3 => sat_cond (fun _ => q) fun h4 => ?_
    have h1 := of_decide_eq_false h1
    have h2 := of_decide_eq_false h2
    have h3 : n ≠ 0 := by simpa using h3
    have h4 := of_decide_eq_false h4
    omega
def T_B (b : TCT cB) : TI := T_dim b.1 b.2.1 (b.2.2.1.length : Int) (
 bif List.any b.2.2.1 (p_Nc (b, ())) then .leaf (2, ()) else
 bif !validC (un b.2.2.2.1.1) then .leaf (2, ()) else
 bif !validC (un b.2.2.2.1.2.1) then .leaf (2, ()) else
 bif !validC (un b.2.2.2.1.2.2.1) then .leaf (2, ()) else
 bif !validC (un b.2.2.2.2.1.1) then .leaf (2, ()) else
 bif !validC (un b.2.2.2.2.1.2.1) then .leaf (2, ()) else
 bif !validC (un b.2.2.2.2.1.2.2.1) then .leaf (2, ()) else .leaf (0, ()))
theorem any_cells (b : TCT cB) : List.any b.2.2.1 (p_Nc (b, ())) = !(b.2.2.1.all (cellOk b)) := by
  unfold p_Nc
  rw [List.any_eq_not_all_not]
  simp
theorem T_B_ok (b : TCT cB) : (T_B b).sat (fun y => y = (boardF b, ())) := by
  unfold T_B boardF bOk runsOk
  rw [any_cells]
  refine T_dim_ok (by omega) (fun h => ?_) (fun h => ?_)
  · rw [h]
    cases b.2.2.1.all (cellOk b) <;> cases validC (un b.2.2.2.1.1) <;> cases validC (un b.2.2.2.1.2.1) <;> cases validC (un b.2.2.2.1.2.2.1) <;> cases validC (un b.2.2.2.2.1.1) <;> cases validC (un b.2.2.2.2.1.2.1) <;> cases validC (un b.2.2.2.2.1.2.2.1) <;> exact rfl
  · rw [h]; exact rfl
def plBo : List (Nat × PureT) := [(39, s_bad), (44, s_cfNc)]
theorem puBo : PuOk Tryz.prog plBo := puOk_cons is_bad.plain q_bad (puOk_cons is_cfInt.plain q_cfNc puOk_nil)
theorem q_Board : PureOk Tryz.prog 28 s_Board := q_by (ctxU_ok (u := 5) mixed puBo (fns_cons is_tBoard (fns_cons is_cfBad (fns_cons is_ixBad fns_nil)))) 8 (fun x => T_B x.1) (fun x => by kernel_rfl) fun x _ _ => T_B_ok x.1
end V
end Go.Proofs.YtialgmhhkbdegaaGreat
