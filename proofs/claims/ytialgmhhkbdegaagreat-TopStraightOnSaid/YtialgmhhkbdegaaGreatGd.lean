/- All, Any; their references. -/
import Derived.Test.YtialgmhhkbdegaaGreatGc
namespace Go.Proofs.YtialgmhhkbdegaaGreat
open Go.RowKit
namespace V
def T_All (l : List (TCT cC)) : Tree (TCTs [cC, cI]) := bif checkF l != 0 then .leaf ((0, 0, ()), checkF l, ()) else
  bif atHead (l.length : Int) 0 l && (fitL l && fitC (un (1000000, 1000000, ()))) then .leaf (((allF l (un (1000000, 1000000, ()))).1, (allF l (un (1000000, 1000000, ()))).2, ()), 0, ()) else .fail
theorem check_fit {l : List (TCT cC)} (h : checkF l = 0) : fitL l = true ∧ (l.length : Int) ≤ 64 := by
  unfold checkF at h
  cases hb : decide ((l.length : Int) > 64) with
  | true => rw [hb] at h; cases h
  | false =>
    cases hv : validL l with
    | false => rw [hb, hv] at h; cases h
    | true => exact ⟨valid_fitL hv, by have := of_decide_eq_false hb; omega⟩
theorem T_All_ok (l : List (TCT cC)) : (T_All l).sat (fun y => y = (((aF l).1, (aF l).2, ()), checkF l, ())) := by
  unfold T_All aF
  by_cases h : checkF l = 0
  · rw [h, decide_eq_true rfl]
    refine sat_must ?_ rfl
    rw [(check_fit h).1]
    exact Bool.and_eq_true_iff.2 ⟨decide_eq_true ⟨rfl, rfl⟩, rfl⟩
  · rw [decide_eq_false h, show (checkF l != 0) = true by simpa using h]
    exact rfl
theorem q_All : PureOk Tryz.prog 11 s_All := q_by X_All_ok 8 (fun x => T_All x.1) (fun x => by kernel_rfl) fun _ _ _ => T_All_ok _
def yF (l : List (TCT cC)) : Ch := bif decide (checkF l = 0) then notF (allF (notL l) cM) else (0, 0)
abbrev s_Any : PureT := spec [cCs] [cC, cI] (fun _ => true) (fun x => (((yF x.1).1, (yF x.1).2, ()), checkF x.1, ()))
def T_Any (l : List (TCT cC)) : Tree (TCTs [cC, cI]) := bif checkF l != 0 then .leaf ((0, 0, ()), checkF l, ()) else
  bif atHead (l.length : Int) 0 l && (fitL l && shortL l && isNil ([] : List (TCT cC))) then
    bif fitC (un ((aF (notL l)).1, (aF (notL l)).2, ())) then .leaf ((1000000 - (aF (notL l)).2, 1000000 - (aF (notL l)).1, ()), 0, ()) else .fail else .fail
theorem valid_not {c : Ch} (h : validC c = true) : validC (notF c) = true := by
  have := of_decide_eq_true h
  exact decide_eq_true (by simp only [notF]; omega)
theorem check_not {l : List (TCT cC)} (h : checkF l = 0) : checkF (notL l) = 0 := by
  unfold checkF at h ⊢
  rw [show (notL l).length = l.length from List.length_map ..]
  cases hb : decide ((l.length : Int) > 64) with
  | true => rw [hb] at h; cases h
  | false =>
    cases hv : validL l with
    | false => rw [hb, hv] at h; cases h
    | true =>
      have : validL (notL l) = true := by
        unfold validL notL at *
        rw [List.all_map]
        rw [List.all_eq_true] at hv ⊢
        exact fun x hx => valid_not (hv x hx)
      rw [this]; rfl
theorem allF_fit : ∀ (l : List (TCT cC)) {o : Ch}, fitL l = true → fitC o = true → fitC (allF l o) = true
  | [], _, _, h => h
  | x :: l, o, hl, ho => by
    simp only [fitL, List.all_cons, Bool.and_eq_true_iff] at hl
    exact allF_fit l hl.2 (timesF_fit ho hl.1)
theorem T_Any_ok (l : List (TCT cC)) : (T_Any l).sat (fun y => y = (((yF l).1, (yF l).2, ()), checkF l, ())) := by
  unfold T_Any yF
  by_cases h : checkF l = 0
  · rw [h, decide_eq_true rfl]
    refine sat_must ?_ ?_
    · rw [(check_fit h).1]
      have : shortL l = true := decide_eq_true (by have := (check_fit h).2; omega)
      rw [this]
      exact Bool.and_eq_true_iff.2 ⟨decide_eq_true ⟨rfl, rfl⟩, rfl⟩
    · have h2 := check_not h
      have h3 : aF (notL l) = allF (notL l) cM := by unfold aF; rw [h2, decide_eq_true rfl]; rfl
      rw [h3]
      exact sat_must (allF_fit _ (check_fit h2).1 rfl) rfl
  · rw [decide_eq_false h, show (checkF l != 0) = true by simpa using h]
    exact rfl
/-! the reference -/
def L_rl : Lay := { keys := [0, 2, 3], ks := [.d cCs, .d cI, .d cI], bs := [], n := 19, nx := 1000, marks := [] }
def R_rl : Lay := { keys := [2], ks := [.d cI], bs := [], n := 19, nx := 1000, marks := [] }
def E_rl : XE → Lay := fun _ => R_rl
def hd_rl (l : List (TCT cC)) (e i : Int) : L_rl.T := ((l, e, i, ()), ())
def r_rl (_ : Nat) : Left' E_rl := ⟨.ret, ((2, ()), ())⟩
def e_rl (e : Int) : Left' E_rl := ⟨.exit 0, ((e, ()), ())⟩
def st_rl (l : List (TCT cC)) (e i : Int) : Tree (L_rl.T ⊕ Left' E_rl) :=
  bif decide (i < (l.length : Int)) then bif decide (0 ≤ i ∧ i < (l.length : Int)) then
    bif !validC (un (getA l i.toNat (dflt cC))) then .leaf (.inr (r_rl 0)) else .leaf (.inl (hd_rl l e (W64 (i + 1)))) else .fail else .leaf (.inr (e_rl e))
def fin_rl (g : L_rl.T) : Tree (Left' E_rl) := .br (decide (g.1.2.2.1 = 0)) (.br (g.1.1.any fun c => !validC (un c)) (.leaf (r_rl 0)) (.leaf (e_rl g.1.2.1))) .fail
def T_rl (l : List (TCT cC)) : Tree (Int × Unit) := bif decide ((l.length : Int) > 64) then .leaf (6, ()) else bif l.any (fun c => !validC (un c)) then .leaf (2, ()) else .leaf (0, ())
theorem T_rl_ok (l : List (TCT cC)) : (T_rl l).sat (fun y => y = (checkF l, ())) := T_check_ok l
abbrev s_rl : PureT := spec [cCs] [cI] (fun _ => true) (fun x => (checkF x.1, ()))
def L_ra : Lay := { keys := [0, 2, 3, 4], ks := [.d cCs, .p 0 0 0 0, .p 1 0 0 0, .d cI], bs := [bC 0, bC 1], n := 32, nx := 1000, marks := [] }
def R_ra : Lay := { keys := [2, 3], ks := [.p 0 0 0 0, .p 1 0 0 0], bs := [bC 0, bC 1], n := 32, nx := 1000, marks := [] }
def E_ra : XE → Lay := fun _ => R_ra
def hd_ra (b : TCT cC) (l : List (TCT cC)) (i : Int) (o : Ch) : L_ra.T := ((l, (), (), i, ()), b, mk o, ())
def ex_ra (b : TCT cC) (o : Ch) : Left' E_ra := ⟨.exit 0, (((), (), ()), b, mk o, ())⟩
def raw (o : Ch) (x : TCT cC) : Ch := (W64 (Int.tdiv (W64 (o.1 * x.1)) 1000000), W64 (Int.tdiv (W64 (W64 (W64 (o.2 * x.2.1) + 1000000) - 1)) 1000000))
def body_ra (b : TCT cC) (l : List (TCT cC)) (x : TCT cC) (i : Int) (o : Ch) : Tree (L_ra.T ⊕ Left' E_ra) := bif decide (0 ≤ i ∧ i < (l.length : Int)) then .leaf (.inl (hd_ra b l (W64 (i + 1)) (raw o x))) else .fail
def st_ra (b : TCT cC) (l : List (TCT cC)) (i : Int) (o : Ch) : Tree (L_ra.T ⊕ Left' E_ra) :=
  bif decide (i < (l.length : Int)) then bif decide (0 ≤ i ∧ i < (l.length : Int)) then body_ra b l (getA l i.toNat (dflt cC)) i o else .fail else .leaf (.inr (ex_ra b o))
def fin_ra (g : L_ra.T) : Tree (Left' E_ra) :=
  .br (decide (g.1.2.2.2.1 = 0) && (fitL g.1.1 && fitC (un g.2.2.1))) (.leaf (ex_ra g.2.1 (allF g.1.1 (un g.2.2.1)))) .fail
theorem raw_ok {o : Ch} {x : TCT cC} (h : fitC o = true) (k : fitC (un x) = true) : raw o x = timesF o (un x) 0 := by
  have h := of_decide_eq_true h
  have k := of_decide_eq_true k
  simp only [un] at k
  have e1 := mul_le' (a := o.1) (b := x.1) (m := 1000000) (by omega) (by omega)
  have e2 := mul_le' (a := o.2) (b := x.2.1) (m := 1000000) (by omega) (by omega)
  unfold raw
  rw [tdiv_dn (by omega), tdiv_up (by omega)]
  simp only [timesF, un, Int.add_zero]
abbrev s_ra : PureT := spec [cCs] [cC] (fun x => fitL x.1) (fun x => (((allF x.1 cM).1, (allF x.1 cM).2, ()), ()))
def T_ra (l : List (TCT cC)) : Tree (TCTs [cC]) := bif decide ((0 : Int) = 0) && (fitL l && fitC (un (1000000, 1000000, ()))) then .leaf (((allF l cM).1, (allF l cM).2, ()), ()) else .fail
theorem T_ra_ok (l : List (TCT cC)) (h : fitL l = true) : (T_ra l).sat (fun y => y = (((allF l cM).1, (allF l cM).2, ()), ())) := by
  unfold T_ra
  rw [h]
  exact rfl
/-! the loop of the reference's Any -/
def L_rn : Lay := { keys := [0, 2, 3, 5, 6], ks := [.d cCs, .p 0 0 0 0, .d cI, .o 30 cC, .d cI], bs := [bC 0], n := 45, nx := 1000, marks := [] }
def R_rn : Lay := { keys := [2, 3, 5], ks := [.p 0 0 0 0, .d cI, .o 30 cC], bs := [bC 0], n := 45, nx := 1000, marks := [] }
def E_rn : XE → Lay := fun _ => R_rn
def hd_rn (b : TCT cC) (e : Int) (l : List (TCT cC)) (i : Int) (o : List (TCT cC)) : L_rn.T := ((l, (), e, o, i, ()), b, ())
def ex_rn (b : TCT cC) (e : Int) (o : List (TCT cC)) : Left' E_rn := ⟨.exit 0, (((), e, o, ()), b, ())⟩
def rawN (x : TCT cC) : TCT cC := (W64 (1000000 - x.2.1), W64 (1000000 - x.1), ())
def body_rn (b : TCT cC) (e : Int) (l : List (TCT cC)) (x : TCT cC) (i : Int) (o : List (TCT cC)) : Tree (L_rn.T ⊕ Left' E_rn) :=
  bif decide (0 ≤ i ∧ i < (l.length : Int)) then bif appOk o [rawN x] 16 then .leaf (.inl (hd_rn b e l (W64 (i + 1)) (o ++ [rawN x]))) else .fail else .fail
def st_rn (b : TCT cC) (e : Int) (l : List (TCT cC)) (i : Int) (o : List (TCT cC)) : Tree (L_rn.T ⊕ Left' E_rn) :=
  bif decide (i < (l.length : Int)) then bif decide (0 ≤ i ∧ i < (l.length : Int)) then body_rn b e l (getA l i.toNat (dflt cC)) i o else .fail else .leaf (.inr (ex_rn b e o))
def fin_rn (g : L_rn.T) : Tree (Left' E_rn) :=
  .br (decide (g.1.2.2.2.2.1 = 0) && (fitL g.1.1 && shortL g.1.1 && isNil g.1.2.2.2.1)) (.leaf (ex_rn g.2.1 g.1.2.2.1 (notL g.1.1))) .fail
theorem rawN_ok {x : TCT cC} (h : fitC (un x) = true) : rawN x = mk (notF (un x)) := by
  have h := of_decide_eq_true h
  simp only [un] at h
  unfold rawN
  rw [W64_id (n := 1000000 - x.2.1) (by omega) (by omega), W64_id (n := 1000000 - x.1) (by omega) (by omega)]
  rfl
abbrev s_rAll : PureT := spec [cCs] [cC, cI] (fun _ => true) (fun x => (((aF x.1).1, (aF x.1).2, ()), checkF x.1, ()))
abbrev s_rAny : PureT := spec [cCs] [cC, cI] (fun _ => true) (fun x => (((yF x.1).1, (yF x.1).2, ()), checkF x.1, ()))
def T_rAll (l : List (TCT cC)) : Tree (TCTs [cC, cI]) := bif checkF l != 0 then .leaf ((0, 0, ()), checkF l, ()) else bif fitL l then .leaf (((allF l cM).1, (allF l cM).2, ()), 0, ()) else .fail
theorem T_rAll_ok (l : List (TCT cC)) : (T_rAll l).sat (fun y => y = (((aF l).1, (aF l).2, ()), checkF l, ())) := by
  unfold T_rAll aF
  by_cases h : checkF l = 0
  · rw [h, decide_eq_true rfl, (check_fit h).1]
    exact rfl
  · rw [decide_eq_false h, show (checkF l != 0) = true by simpa using h]
    exact rfl
def T_rAny (l : List (TCT cC)) : Tree (TCTs [cC, cI]) := bif checkF l != 0 then .leaf ((0, 0, ()), checkF l, ()) else
  bif decide ((0 : Int) = 0) && (fitL l && shortL l && isNil ([] : List (TCT cC))) then
    bif fitL (notL l) then .leaf ((W64 (1000000 - (allF (notL l) cM).2), W64 (1000000 - (allF (notL l) cM).1), ()), 0, ()) else .fail else .fail
theorem T_rAny_ok (l : List (TCT cC)) : (T_rAny l).sat (fun y => y = (((yF l).1, (yF l).2, ()), checkF l, ())) := by
  unfold T_rAny yF
  by_cases h : checkF l = 0
  · rw [h, decide_eq_true rfl, (check_fit h).1]
    have h1 : shortL l = true := decide_eq_true (by have := (check_fit h).2; omega)
    have h2 := (check_fit (check_not h)).1
    rw [h1, h2]
    refine sat_leaf ?_
    have h3 := of_decide_eq_true (allF_fit _ h2 (show fitC cM = true from rfl))
    rw [W64_id (n := 1000000 - (allF (notL l) cM).2) (by omega) (by omega), W64_id (n := 1000000 - (allF (notL l) cM).1) (by omega) (by omega)]
    rfl
  · rw [decide_eq_false h, show (checkF l != 0) = true by simpa using h]
    exact rfl
end V
end Go.Proofs.YtialgmhhkbdegaaGreat
