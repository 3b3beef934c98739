/- All, Any; their references. -/
import Derived.Test.YtdblbofagfhlbaaGc
namespace Go.Proofs.Ytdblbofagfhlbaa
open Go.RowKit
namespace V
def T_All (l : List (TCT cC)) : Tree (TCTs [cC, cI]) := bif checkF l != 0 then .leaf ((0, 0, ()), checkF l, ()) else
  bif atHead (l.length : Int) 0 l && (fitL l && fitC (un (1000000, 1000000, ()))) then .leaf (((allF l (un (1000000, 1000000, ()))).1, (allF l (un (1000000, 1000000, ()))).2, ()), 0, ()) else .fail
theorem check_fit {l : List (TCT cC)} (h : checkF l = 0) : fitL l = true ∧ (l.length : Int) ≤ 64 := by
  unfold checkF at h
  cases hb : decide ((l.length : Int) > 64) with
  | true => rw [hb] at h; cases h
  | false =>
    cases hv : validL l with
    | false => rw [hb, hv] at h; cases h
    | true => exact ⟨valid_fitL hv, by have := of_decide_eq_false hb; omega⟩
theorem T_All_ok (l : List (TCT cC)) : (T_All l).sat (fun y => y = (((aF l).1, (aF l).2, ()), checkF l, ())) := by
  unfold T_All aF
  by_cases h : checkF l = 0
  · rw [h, decide_eq_true rfl]
    refine sat_must ?_ rfl
    rw [(check_fit h).1]
    exact Bool.and_eq_true_iff.2 ⟨decide_eq_true ⟨rfl, rfl⟩, rfl⟩
  · rw [decide_eq_false h, show (checkF l != 0) = true by simpa using h]
    exact rfl
theorem q_All : PureOk Try.prog 23 s_All := q_by X_All_ok 8 (fun x => T_All x.1) (fun x => by kernel_rfl) fun _ _ _ => T_All_ok _
def yF (l : List (TCT cC)) : Ch := bif decide (checkF l = 0) then notF (allF (notL l) cM) else (0, 0)
abbrev s_Any : PureT := spec [cCs] [cC, cI] (fun _ => true) (fun x => (((yF x.1).1, (yF x.1).2, ()), checkF x.1, ()))
def plAn : List (Nat × PureT) := [(57, s_check), (61, s_notC), (23, s_All)]
theorem puAn : PuOk Try.prog plAn := puOk_cons is_check.plain q_check (puOk_cons is_notC.plain q_notC (puOk_cons is_tAll.plain q_All puOk_nil))
noncomputable def X_Any : Ctx := ctxL Try.prog plAn [(25, Try.f25)] [((25, keyOf lb_Any), loopSum L_Any E_Any fin_Any)]
theorem X_Any_ok : CtxOk X_Any := ctxL_ok mixed puAn (fns_cons is_tAny fns_nil) (loops_one rfl (by kernel_rfl) l_Any)
def T_Any (l : List (TCT cC)) : Tree (TCTs [cC, cI]) := bif checkF l != 0 then .leaf ((0, 0, ()), checkF l, ()) else
  bif atHead (l.length : Int) 0 l && (fitL l && shortL l && isNil ([] : List (TCT cC))) then
    bif fitC (un ((aF (notL l)).1, (aF (notL l)).2, ())) then .leaf ((1000000 - (aF (notL l)).2, 1000000 - (aF (notL l)).1, ()), 0, ()) else .fail else .fail
theorem valid_not {c : Ch} (h : validC c = true) : validC (notF c) = true := by
  have := of_decide_eq_true h
  exact decide_eq_true (by simp only [notF]; omega)
theorem check_not {l : List (TCT cC)} (h : checkF l = 0) : checkF (notL l) = 0 := by
  unfold checkF at h ⊢
  rw [show (notL l).length = l.length from List.length_map ..]
  cases hb : decide ((l.length : Int) > 64) with
  | true => rw [hb] at h; cases h
  | false =>
    cases hv : validL l with
    | false => rw [hb, hv] at h; cases h
    | true =>
      have : validL (notL l) = true := by
        unfold validL notL at *
        rw [List.all_map]
        rw [List.all_eq_true] at hv ⊢
        exact fun x hx => valid_not (hv x hx)
      rw [this]; rfl
theorem allF_fit : ∀ (l : List (TCT cC)) {o : Ch}, fitL l = true → fitC o = true → fitC (allF l o) = true
  | [], _, _, h => h
  | x :: l, o, hl, ho => by
    simp only [fitL, List.all_cons, Bool.and_eq_true_iff] at hl
    exact allF_fit l hl.2 (timesF_fit ho hl.1)
theorem T_Any_ok (l : List (TCT cC)) : (T_Any l).sat (fun y => y = (((yF l).1, (yF l).2, ()), checkF l, ())) := by
  unfold T_Any yF
  by_cases h : checkF l = 0
  · rw [h, decide_eq_true rfl]
    refine sat_must ?_ ?_
    · rw [(check_fit h).1]
      have : shortL l = true := decide_eq_true (by have := (check_fit h).2; omega)
      rw [this]
      exact Bool.and_eq_true_iff.2 ⟨decide_eq_true ⟨rfl, rfl⟩, rfl⟩
    · have h2 := check_not h
      have h3 : aF (notL l) = allF (notL l) cM := by unfold aF; rw [h2, decide_eq_true rfl]; rfl
      rw [h3]
      exact sat_must (allF_fit _ (check_fit h2).1 rfl) rfl
  · rw [decide_eq_false h, show (checkF l != 0) = true by simpa using h]
    exact rfl
theorem q_Any : PureOk Try.prog 25 s_Any := q_by X_Any_ok 8 (fun x => T_Any x.1) (fun x => by kernel_rfl) fun _ _ _ => T_Any_ok _

/-! the reference -/
theorem is_rlist : FnIs Try.prog (59, Try.f59) := ⟨Try.func59, by kernel_rfl, by kernel_rfl⟩
theorem is_rall : FnIs Try.prog (60, Try.f60) := ⟨Try.func60, by kernel_rfl, by kernel_rfl⟩
theorem is_rAll : FnIs Try.prog (24, Try.f24) := ⟨Try.func24, by kernel_rfl, by kernel_rfl⟩
theorem is_rAny : FnIs Try.prog (26, Try.f26) := ⟨Try.func26, by kernel_rfl, by kernel_rfl⟩
noncomputable def lb_rl : Code := (loopsOf (bodyOf Try.f59)).getD 0 .skip
def L_rl : Lay := { keys := [0, 2, 3], ks := [.d cCs, .d cI, .d cI], bs := [], n := 19, nx := 1000, marks := [] }
def R_rl : Lay := { keys := [2], ks := [.d cI], bs := [], n := 19, nx := 1000, marks := [] }
def E_rl : XE → Lay := fun _ => R_rl
def hd_rl (l : List (TCT cC)) (e i : Int) : L_rl.T := ((l, e, i, ()), ())
def r_rl (_ : Nat) : Left' E_rl := ⟨.ret, ((2, ()), ())⟩
def e_rl (e : Int) : Left' E_rl := ⟨.exit 0, ((e, ()), ())⟩
def st_rl (l : List (TCT cC)) (e i : Int) : Tree (L_rl.T ⊕ Left' E_rl) :=
  bif decide (i < (l.length : Int)) then bif decide (0 ≤ i ∧ i < (l.length : Int)) then
    bif !validC (un (getA l i.toNat (dflt cC))) then .leaf (.inr (r_rl 0)) else .leaf (.inl (hd_rl l e (W64 (i + 1)))) else .fail else .leaf (.inr (e_rl e))
def fin_rl (g : L_rl.T) : Tree (Left' E_rl) := .br (decide (g.1.2.2.1 = 0)) (.br (g.1.1.any fun c => !validC (un c)) (.leaf (r_rl 0)) (.leaf (e_rl g.1.2.1))) .fail
def plVa : List (Nat × PureT) := [(80, s_valid)]
theorem puVa : PuOk Try.prog plVa := puOk_cons is_valid.plain q_valid puOk_nil
theorem l_rl : LoopOk Try.prog 59 lb_rl (loopSum L_rl E_rl fin_rl) := by
  refine loopOk_of (X := ctx Try.prog plVa []) (ctx_ok mixed puVa fns_nil) 7 59 (fun _ => none) (fun _ _ f h => by simp at h) L_rl E_rl (fun _ => Nat.le_refl _) fin_rl (fun g => st_rl g.1.1 g.1.2.1 g.1.2.2.1) (fun g => by kernel_rfl) ?_
  rintro ⟨⟨l, e, i, ⟨⟩⟩, ⟨⟩⟩ R hw hf
  obtain ⟨hf, h0⟩ := hf
  by_cases hc : i = 0
  · subst hc
    have hf := hf rfl
    refine forL l (dflt cC) (wfl_len hw.1.1) (fun _ i _ => hd_rl l e i) (fun x i (_ : Unit) => bif !validC (un x) then .inr (r_rl i) else .inl ()) (fun _ => e_rl e) (fun _ => True) (fun x i _ => bif !validC (un x) then .leaf (.inr (r_rl 0)) else .leaf (.inl (hd_rl l e (W64 (i + 1))))) (fun i _ => rfl) ?_ () trivial ?_
    · intro i _ hi Q _ _ hw1 hQ
      rw [hw1]
      cases hp : !validC (un l[i]) with
      | true => rw [hp] at hQ; exact hQ
      | false => rw [hp] at hQ; exact hQ trivial
    · rw [run_any (fun c => !validC (un c)) (fun i => r_rl i) (e_rl e) l 0]
      cases ha : l.any (fun c => !validC (un c)) with
      | true => exact hf.1 ha
      | false => exact hf.2 ha
  · exact (h0 (decide_eq_false hc)).elim
def T_rl (l : List (TCT cC)) : Tree (Int × Unit) := bif decide ((l.length : Int) > 64) then .leaf (6, ()) else bif l.any (fun c => !validC (un c)) then .leaf (2, ()) else .leaf (0, ())
theorem T_rl_ok (l : List (TCT cC)) : (T_rl l).sat (fun y => y = (checkF l, ())) := T_check_ok l
abbrev s_rl : PureT := spec [cCs] [cI] (fun _ => true) (fun x => (checkF x.1, ()))
noncomputable def X_rl : Ctx := ctxL Try.prog plVa [(59, Try.f59)] [((59, keyOf lb_rl), loopSum L_rl E_rl fin_rl)]
theorem X_rl_ok : CtxOk X_rl := ctxL_ok mixed puVa (fns_cons is_rlist fns_nil) (loops_one rfl (by kernel_rfl) l_rl)
theorem q_rl : PureOk Try.prog 59 s_rl := q_by X_rl_ok 8 (fun x => T_rl x.1) (fun x => by kernel_rfl) fun _ _ _ => T_rl_ok _
noncomputable def lb_ra : Code := (loopsOf (bodyOf Try.f60)).getD 0 .skip
def L_ra : Lay := { keys := [0, 2, 3, 4], ks := [.d cCs, .p 0 0 0 0, .p 1 0 0 0, .d cI], bs := [bC 0, bC 1], n := 32, nx := 1000, marks := [] }
def R_ra : Lay := { keys := [2, 3], ks := [.p 0 0 0 0, .p 1 0 0 0], bs := [bC 0, bC 1], n := 32, nx := 1000, marks := [] }
def E_ra : XE → Lay := fun _ => R_ra
def hd_ra (b : TCT cC) (l : List (TCT cC)) (i : Int) (o : Ch) : L_ra.T := ((l, (), (), i, ()), b, mk o, ())
def ex_ra (b : TCT cC) (o : Ch) : Left' E_ra := ⟨.exit 0, (((), (), ()), b, mk o, ())⟩
def raw (o : Ch) (x : TCT cC) : Ch := (W64 (Int.tdiv (W64 (o.1 * x.1)) 1000000), W64 (Int.tdiv (W64 (W64 (W64 (o.2 * x.2.1) + 1000000) - 1)) 1000000))
def body_ra (b : TCT cC) (l : List (TCT cC)) (x : TCT cC) (i : Int) (o : Ch) : Tree (L_ra.T ⊕ Left' E_ra) := bif decide (0 ≤ i ∧ i < (l.length : Int)) then .leaf (.inl (hd_ra b l (W64 (i + 1)) (raw o x))) else .fail
def st_ra (b : TCT cC) (l : List (TCT cC)) (i : Int) (o : Ch) : Tree (L_ra.T ⊕ Left' E_ra) :=
  bif decide (i < (l.length : Int)) then bif decide (0 ≤ i ∧ i < (l.length : Int)) then body_ra b l (getA l i.toNat (dflt cC)) i o else .fail else .leaf (.inr (ex_ra b o))
def plDU : List (Nat × PureT) := [(55, s_Down), (56, s_Up)]
theorem puDU : PuOk Try.prog plDU := puOk_cons is_Down.plain q_Down (puOk_cons is_Up.plain q_Up puOk_nil)
def fin_ra (g : L_ra.T) : Tree (Left' E_ra) :=
  .br (decide (g.1.2.2.2.1 = 0) && (fitL g.1.1 && fitC (un g.2.2.1))) (.leaf (ex_ra g.2.1 (allF g.1.1 (un g.2.2.1)))) .fail
theorem raw_ok {o : Ch} {x : TCT cC} (h : fitC o = true) (k : fitC (un x) = true) : raw o x = timesF o (un x) 0 := by
  have h := of_decide_eq_true h
  have k := of_decide_eq_true k
  simp only [un] at k
  have e1 := mul_le' (a := o.1) (b := x.1) (m := 1000000) (by omega) (by omega)
  have e2 := mul_le' (a := o.2) (b := x.2.1) (m := 1000000) (by omega) (by omega)
  unfold raw
  rw [tdiv_dn (by omega), tdiv_up (by omega)]
  simp only [timesF, un, Int.add_zero]
theorem l_ra : LoopOk Try.prog 60 lb_ra (loopSum L_ra E_ra fin_ra) := by
  refine loopOk_of (X := ctx Try.prog plDU []) (ctx_ok mixed puDU fns_nil) 7 60 (fun _ => none) (fun _ _ f h => by simp at h) L_ra E_ra (fun _ => Nat.le_refl _) fin_ra (fun g => st_ra g.2.1 g.1.1 g.1.2.2.2.1 (un g.2.2.1)) (fun g => by kernel_rfl) ?_
  rintro ⟨⟨l, ⟨⟩, ⟨⟩, i, ⟨⟩⟩, b, o, ⟨⟩⟩ R hw hf
  obtain ⟨hf, h0⟩ := hf
  by_cases hc : i = 0 ∧ fitL l = true ∧ fitC (un o) = true
  · obtain ⟨rfl, hl, ho⟩ := hc
    have hf := hf (by simp only [hl, ho, Bool.and_self, Bool.and_true]; rfl)
    refine forFold l (dflt cC) (wfl_len hw.1.1) (fun _ i o => hd_ra b l i o) (fun o c => timesF o (un c) 0) (ex_ra b) (fun _ o => fitC o = true) (fun x i o => body_ra b l x i o) (fun i o => rfl) ?_ (un o) ho hf
    intro i o hi Q ho _ hw1 hQ
    have hx : fitC (un l[i]) = true := List.all_eq_true.1 hl _ (List.getElem_mem hi)
    show (body_ra b l l[i] i o).sat Q
    unfold body_ra
    rw [hw1, raw_ok ho hx, decide_eq_true (show 0 ≤ (i : Int) ∧ (i : Int) < l.length by omega)]
    exact hQ (timesF_fit ho hx)
  · refine (h0 ?_).elim
    simp only []
    cases h1 : fitL l <;> cases h2 : fitC (un o) <;> simp_all
abbrev s_ra : PureT := spec [cCs] [cC] (fun x => fitL x.1) (fun x => (((allF x.1 cM).1, (allF x.1 cM).2, ()), ()))
noncomputable def X_ra : Ctx := ctxL Try.prog plDU [(60, Try.f60)] [((60, keyOf lb_ra), loopSum L_ra E_ra fin_ra)]
theorem X_ra_ok : CtxOk X_ra := ctxL_ok mixed puDU (fns_cons is_rall fns_nil) (loops_one rfl (by kernel_rfl) l_ra)
def T_ra (l : List (TCT cC)) : Tree (TCTs [cC]) := bif decide ((0 : Int) = 0) && (fitL l && fitC (un (1000000, 1000000, ()))) then .leaf (((allF l cM).1, (allF l cM).2, ()), ()) else .fail
theorem T_ra_ok (l : List (TCT cC)) (h : fitL l = true) : (T_ra l).sat (fun y => y = (((allF l cM).1, (allF l cM).2, ()), ())) := by
  unfold T_ra
  rw [h]
  exact rfl
theorem q_ra : PureOk Try.prog 60 s_ra := q_by X_ra_ok 8 (fun x => T_ra x.1) (fun x => by kernel_rfl) fun _ h _ => T_ra_ok _ h
def plRA : List (Nat × PureT) := [(59, s_rl), (60, s_ra)]
theorem puRA : PuOk Try.prog plRA := puOk_cons is_rlist.plain q_rl (puOk_cons is_rall.plain q_ra puOk_nil)
/-! the loop of the reference's Any -/
noncomputable def lb_rn : Code := (loopsOf (bodyOf Try.f26)).getD 0 .skip
def L_rn : Lay := { keys := [0, 2, 3, 5, 6], ks := [.d cCs, .p 0 0 0 0, .d cI, .o 24 cC, .d cI], bs := [bC 0], n := 45, nx := 1000, marks := [] }
def R_rn : Lay := { keys := [2, 3, 5], ks := [.p 0 0 0 0, .d cI, .o 24 cC], bs := [bC 0], n := 45, nx := 1000, marks := [] }
def E_rn : XE → Lay := fun _ => R_rn
def hd_rn (b : TCT cC) (e : Int) (l : List (TCT cC)) (i : Int) (o : List (TCT cC)) : L_rn.T := ((l, (), e, o, i, ()), b, ())
def ex_rn (b : TCT cC) (e : Int) (o : List (TCT cC)) : Left' E_rn := ⟨.exit 0, (((), e, o, ()), b, ())⟩
def rawN (x : TCT cC) : TCT cC := (W64 (1000000 - x.2.1), W64 (1000000 - x.1), ())
def body_rn (b : TCT cC) (e : Int) (l : List (TCT cC)) (x : TCT cC) (i : Int) (o : List (TCT cC)) : Tree (L_rn.T ⊕ Left' E_rn) :=
  bif decide (0 ≤ i ∧ i < (l.length : Int)) then bif appOk o [rawN x] 16 then .leaf (.inl (hd_rn b e l (W64 (i + 1)) (o ++ [rawN x]))) else .fail else .fail
def st_rn (b : TCT cC) (e : Int) (l : List (TCT cC)) (i : Int) (o : List (TCT cC)) : Tree (L_rn.T ⊕ Left' E_rn) :=
  bif decide (i < (l.length : Int)) then bif decide (0 ≤ i ∧ i < (l.length : Int)) then body_rn b e l (getA l i.toNat (dflt cC)) i o else .fail else .leaf (.inr (ex_rn b e o))
def fin_rn (g : L_rn.T) : Tree (Left' E_rn) :=
  .br (decide (g.1.2.2.2.2.1 = 0) && (fitL g.1.1 && shortL g.1.1 && isNil g.1.2.2.2.1)) (.leaf (ex_rn g.2.1 g.1.2.2.1 (notL g.1.1))) .fail
theorem rawN_ok {x : TCT cC} (h : fitC (un x) = true) : rawN x = mk (notF (un x)) := by
  have h := of_decide_eq_true h
  simp only [un] at h
  unfold rawN
  rw [W64_id (n := 1000000 - x.2.1) (by omega) (by omega), W64_id (n := 1000000 - x.1) (by omega) (by omega)]
  rfl
theorem l_rn : LoopOk Try.prog 26 lb_rn (loopSum L_rn E_rn fin_rn) := by
  refine loopOk_of (X := ctx Try.prog [] []) (ctx_ok mixed puOk_nil fns_nil) 7 26 (fun _ => none) (fun _ _ f h => by simp at h) L_rn E_rn (fun _ => Nat.le_refl _) fin_rn (fun g => st_rn g.2.1 g.1.2.2.1 g.1.1 g.1.2.2.2.2.1 g.1.2.2.2.1) (fun g => by kernel_rfl) ?_
  rintro ⟨⟨l, ⟨⟩, e, m, i, ⟨⟩⟩, b, ⟨⟩⟩ R hw hf
  obtain ⟨hf, h0⟩ := hf
  by_cases hc : i = 0 ∧ fitL l = true ∧ shortL l = true ∧ m = []
  · obtain ⟨rfl, hl, hs, rfl⟩ := hc
    have hf := hf (by simp only [hl, hs, isNil, Bool.and_self, Bool.and_true]; rfl)
    have hs := of_decide_eq_true hs
    refine forFold l (dflt cC) (wfl_len hw.1.1) (fun _ i o => hd_rn b e l i o) (fun o c => o ++ [mk (notF (un c))]) (ex_rn b e) (fun i o => o.length = i) (fun x i o => body_rn b e l x i o) (fun i o => rfl) ?_ [] rfl (by rw [notL_fold, List.nil_append]; exact hf)
    intro i o hi Q ho _ hw1 hQ
    have hx : fitC (un l[i]) = true := List.all_eq_true.1 hl _ (List.getElem_mem hi)
    show (body_rn b e l l[i] i o).sat Q
    unfold body_rn
    rw [hw1, rawN_ok hx, app16 (by omega), decide_eq_true (show 0 ≤ (i : Int) ∧ (i : Int) < l.length by omega)]
    exact hQ (by simp [ho])
  · refine (h0 ?_).elim
    simp only []
    cases h1 : fitL l <;> cases h2 : shortL l <;> cases m <;> simp_all [isNil]
abbrev s_rAll : PureT := spec [cCs] [cC, cI] (fun _ => true) (fun x => (((aF x.1).1, (aF x.1).2, ()), checkF x.1, ()))
abbrev s_rAny : PureT := spec [cCs] [cC, cI] (fun _ => true) (fun x => (((yF x.1).1, (yF x.1).2, ()), checkF x.1, ()))
noncomputable def X_rAny : Ctx := ctxL Try.prog plRA [(26, Try.f26)] [((26, keyOf lb_rn), loopSum L_rn E_rn fin_rn)]
theorem X_rAny_ok : CtxOk X_rAny := ctxL_ok mixed puRA (fns_cons is_rAny fns_nil) (loops_one rfl (by kernel_rfl) l_rn)
def T_rAll (l : List (TCT cC)) : Tree (TCTs [cC, cI]) := bif checkF l != 0 then .leaf ((0, 0, ()), checkF l, ()) else bif fitL l then .leaf (((allF l cM).1, (allF l cM).2, ()), 0, ()) else .fail
theorem T_rAll_ok (l : List (TCT cC)) : (T_rAll l).sat (fun y => y = (((aF l).1, (aF l).2, ()), checkF l, ())) := by
  unfold T_rAll aF
  by_cases h : checkF l = 0
  · rw [h, decide_eq_true rfl, (check_fit h).1]
    exact rfl
  · rw [decide_eq_false h, show (checkF l != 0) = true by simpa using h]
    exact rfl
theorem q_rAll : PureOk Try.prog 24 s_rAll := q_by (ctx_ok mixed puRA (fns_cons is_rAll fns_nil)) 8 (fun x => T_rAll x.1) (fun x => by kernel_rfl) fun _ _ _ => T_rAll_ok _
def T_rAny (l : List (TCT cC)) : Tree (TCTs [cC, cI]) := bif checkF l != 0 then .leaf ((0, 0, ()), checkF l, ()) else
  bif decide ((0 : Int) = 0) && (fitL l && shortL l && isNil ([] : List (TCT cC))) then
    bif fitL (notL l) then .leaf ((W64 (1000000 - (allF (notL l) cM).2), W64 (1000000 - (allF (notL l) cM).1), ()), 0, ()) else .fail else .fail
theorem T_rAny_ok (l : List (TCT cC)) : (T_rAny l).sat (fun y => y = (((yF l).1, (yF l).2, ()), checkF l, ())) := by
  unfold T_rAny yF
  by_cases h : checkF l = 0
  · rw [h, decide_eq_true rfl, (check_fit h).1]
    have h1 : shortL l = true := decide_eq_true (by have := (check_fit h).2; omega)
    have h2 := (check_fit (check_not h)).1
    rw [h1, h2]
    refine sat_leaf ?_
    have h3 := of_decide_eq_true (allF_fit _ h2 (show fitC cM = true from rfl))
    rw [W64_id (n := 1000000 - (allF (notL l) cM).2) (by omega) (by omega), W64_id (n := 1000000 - (allF (notL l) cM).1) (by omega) (by omega)]
    rfl
  · rw [decide_eq_false h, show (checkF l != 0) = true by simpa using h]
    exact rfl
theorem q_rAny : PureOk Try.prog 26 s_rAny := q_by X_rAny_ok 8 (fun x => T_rAny x.1) (fun x => by kernel_rfl) fun _ _ _ => T_rAny_ok _
end V
end Go.Proofs.Ytdblbofagfhlbaa
