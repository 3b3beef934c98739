/- Products of chances: times, its reference; the loops of All. -/
import Derived.Test.YtialgmhhkbdegaaGreatGb
namespace Go.Proofs.YtialgmhhkbdegaaGreat
open Go.RowKit
namespace V
def T_times (a b c d g : Int) : Tree ((Int × Int × Unit) × Unit) := .leaf ((W64 (Int.tdiv (W64 (a * W64 (c + g))) 1000000), W64 (Int.tdiv (W64 (W64 (W64 (b * W64 (d + g)) + 1000000) - 1)) 1000000), ()), ())
abbrev s_times : PureT := spec [cC, cC, cI] [cC] (fun x => fitC (un x.1) && gainOk (un x.2.1) x.2.2.1) (fun x => (((timesF (un x.1) (un x.2.1) x.2.2.1).1, (timesF (un x.1) (un x.2.1) x.2.2.1).2, ()), ()))
theorem T_times_ok (a b c d g : Int) (h1 : fitC (a, b) = true) (h2 : gainOk (c, d) g = true) : (T_times a b c d g).sat (fun y => y = (((timesF (a, b) (c, d) g).1, (timesF (a, b) (c, d) g).2, ()), ())) := by
  have h1 := of_decide_eq_true h1
  have h2 := of_decide_eq_true h2
  simp only at h1 h2
  unfold T_times
  refine sat_leaf ?_
  have e1 := mul_le' (a := a) (b := c + g) (m := 100000000) (by omega) (by omega)
  have e2 := mul_le' (a := b) (b := d + g) (m := 100000000) (by omega) (by omega)
  rw [W64_id (n := c + g) (by omega) (by omega), W64_id (n := d + g) (by omega) (by omega), tdiv_dn (by omega), tdiv_up (by omega)]
  rfl
theorem q_times : PureOk Tryz.prog 24 s_times := q_by (ctx_ok mixed puTi (fns_cons is_times (fns_cons is_bounds fns_nil))) 6 (fun x => T_times x.1.1 x.1.2.1 x.2.1.1 x.2.1.2.1 x.2.2.1) (fun x => by kernel_rfl) fun x h _ => by
  have h := Bool.and_eq_true_iff.1 h
  exact T_times_ok _ _ _ _ _ h.1 h.2
/-! the product of a list -/
def allF (l : List (TCT cC)) (o : Ch) : Ch := l.foldl (fun o c => timesF o (un c) 0) o
def validL (l : List (TCT cC)) : Bool := l.all fun c => validC (un c)

theorem timesF_fit {c d : Ch} (h : fitC c = true) (k : fitC d = true) : fitC (timesF c d 0) = true := by
  have h := of_decide_eq_true h
  have k := of_decide_eq_true k
  have e1 := mul_le' (a := c.1) (b := d.1) (m := 1000000) (by omega) (by omega)
  have e2 := mul_le' (a := c.2) (b := d.2) (m := 1000000) (by omega) (by omega)
  refine decide_eq_true ?_
  simp only [timesF, dn, up, Int.add_zero]
  omega
theorem gain_fit {d : Ch} (k : fitC d = true) : gainOk d 0 = true := by
  have k := of_decide_eq_true k
  exact decide_eq_true (by omega)
def fitL (l : List (TCT cC)) : Bool := l.all fun c => fitC (un c)
theorem valid_fitL {l : List (TCT cC)} (h : validL l = true) : fitL l = true := by
  unfold validL at h
  unfold fitL
  rw [List.all_eq_true] at h ⊢
  exact fun x hx => fit_valid (h x hx)
/-! the loop of All -/
theorem is_tAll : FnIs Tryz.prog (11, Tryz.f11) := ⟨Tryz.func11, by kernel_rfl, by kernel_rfl⟩
theorem is_check : FnIs Tryz.prog (23, Tryz.f23) := ⟨Tryz.func23, by kernel_rfl, by kernel_rfl⟩
noncomputable def lb_All : Code := (loopsOf (bodyOf Tryz.f11)).getD 0 .skip
def bC (i : Nat) : BK := (i, 30, [.d cI, .d cI])
def L_All : Lay := { keys := [2, 3, 5, 15, 16, 17], ks := [.p 0 0 0 0, .d cI, .p 1 0 0 0, .d cCs, .d cI, .d cI], bs := [bC 0, bC 1], n := 26, nx := 1000, marks := [] }
def R_All : Lay := { keys := [2, 3, 5], ks := [.p 0 0 0 0, .d cI, .p 1 0 0 0], bs := [bC 0, bC 1], n := 26, nx := 1000, marks := [] }
def E_All : XE → Lay := fun _ => R_All
def hd_All (b : TCT cC) (e : Int) (l : List (TCT cC)) (n i : Int) (o : Ch) : L_All.T := (((), e, (), l, n, i, ()), b, mk o, ())
def ex_All (b : TCT cC) (e : Int) (o : Ch) : Left' E_All := ⟨.exit 0, (((), e, (), ()), b, mk o, ())⟩
def body_All (b : TCT cC) (e : Int) (l : List (TCT cC)) (n : Int) (x : TCT cC) (i : Int) (o : Ch) : Tree (L_All.T ⊕ Left' E_All) :=
  bif fitC o && gainOk (un x) 0 then .leaf (.inl (hd_All b e l n (W64 (i + 1)) (timesF o (un x) 0))) else .fail
def st_All (b : TCT cC) (e : Int) (l : List (TCT cC)) (n i : Int) (o : Ch) : Tree (L_All.T ⊕ Left' E_All) :=
  bif decide (i < n) then bif decide (0 ≤ i ∧ i < (l.length : Int)) then body_All b e l n (getA l i.toNat (dflt cC)) i o else .fail else .leaf (.inr (ex_All b e o))
def fin_All (g : L_All.T) : Tree (Left' E_All) :=
  .br (atHead g.1.2.2.2.2.1 g.1.2.2.2.2.2.1 g.1.2.2.2.1 && (fitL g.1.2.2.2.1 && fitC (un g.2.2.1))) (.leaf (ex_All g.2.1 g.1.2.1 (allF g.1.2.2.2.1 (un g.2.2.1)))) .fail
def plTm : List (Nat × PureT) := [(24, s_times)]
theorem puTm : PuOk Tryz.prog plTm := puOk_cons is_times.plain q_times puOk_nil
theorem l_All : LoopOk Tryz.prog 11 lb_All (loopSum L_All E_All fin_All) := by
  refine loopOk_of (X := ctx Tryz.prog plTm []) (ctx_ok mixed puTm fns_nil) 7 11 (fun _ => none) (fun _ _ f h => by simp at h) L_All E_All (fun _ => Nat.le_refl _) fin_All (fun g => st_All g.2.1 g.1.2.1 g.1.2.2.2.1 g.1.2.2.2.2.1 g.1.2.2.2.2.2.1 (un g.2.2.1)) (fun g => by kernel_rfl) ?_
  rintro ⟨⟨⟨⟩, e, ⟨⟩, l, n, i, ⟨⟩⟩, b, o, ⟨⟩⟩ R hw hf
  obtain ⟨hf, h0⟩ := hf
  by_cases hc : (n = (l.length : Int) ∧ i = 0) ∧ fitL l = true ∧ fitC (un o) = true
  · obtain ⟨⟨rfl, rfl⟩, hl, ho⟩ := hc
    have hf := hf (by simp only [hl, ho, Bool.and_self, Bool.and_true]; exact decide_eq_true ⟨rfl, rfl⟩)
    refine forFold l (dflt cC) (wfl_len hw.1.2.2.2.1) (fun n i o => hd_All b e l n i o) (fun o c => timesF o (un c) 0) (ex_All b e) (fun _ o => fitC o = true) (fun x i o => body_All b e l l.length x i o) (fun i o => rfl) ?_ (un o) ho hf
    intro i o hi Q ho _ hw1 hQ
    have hx : fitC (un l[i]) = true := List.all_eq_true.1 hl _ (List.getElem_mem hi)
    show (body_All b e l l.length l[i] i o).sat Q
    unfold body_All
    rw [hw1, ho, gain_fit hx]
    exact hQ (timesF_fit ho hx)
  · refine (h0 ?_).elim
    simp only [atHead]
    cases h1 : fitL l <;> cases h2 : fitC (un o) <;> simp_all

theorem app16 {β : Type} {h : List β} {x : β} (k : h.length ≤ 1000000) : appOk h [x] 16 = true := by
  rw [appOk_eq]
  refine decide_eq_true ?_
  simp only [List.length_cons, List.length_nil]
  omega
/-! the loop of Any -/
def notL (l : List (TCT cC)) : List (TCT cC) := l.map fun c => mk (notF (un c))
def L_Any : Lay := { keys := [2, 3, 5, 16, 17, 18], ks := [.p 0 0 0 0, .d cI, .o 30 cC, .d cCs, .d cI, .d cI], bs := [bC 0], n := 35, nx := 1000, marks := [] }
def R_Any : Lay := { keys := [2, 3, 5], ks := [.p 0 0 0 0, .d cI, .o 30 cC], bs := [bC 0], n := 35, nx := 1000, marks := [] }
def E_Any : XE → Lay := fun _ => R_Any
def hd_Any (b : TCT cC) (e : Int) (l : List (TCT cC)) (n i : Int) (o : List (TCT cC)) : L_Any.T := (((), e, o, l, n, i, ()), b, ())
def ex_Any (b : TCT cC) (e : Int) (o : List (TCT cC)) : Left' E_Any := ⟨.exit 0, (((), e, o, ()), b, ())⟩
def body_Any (b : TCT cC) (e : Int) (l : List (TCT cC)) (n : Int) (x : TCT cC) (i : Int) (o : List (TCT cC)) : Tree (L_Any.T ⊕ Left' E_Any) :=
  bif fitC (un x) then bif appOk o [mk (notF (un x))] 16 then .leaf (.inl (hd_Any b e l n (W64 (i + 1)) (o ++ [mk (notF (un x))]))) else .fail else .fail
def st_Any (b : TCT cC) (e : Int) (l : List (TCT cC)) (n i : Int) (o : List (TCT cC)) : Tree (L_Any.T ⊕ Left' E_Any) :=
  bif decide (i < n) then bif decide (0 ≤ i ∧ i < (l.length : Int)) then body_Any b e l n (getA l i.toNat (dflt cC)) i o else .fail else .leaf (.inr (ex_Any b e o))
def isNil {α : Type} (l : List α) : Bool := match l with
  | [] => true
  | _ => false
def shortL (l : List (TCT cC)) : Bool := decide ((l.length : Int) ≤ 1000)
def fin_Any (g : L_Any.T) : Tree (Left' E_Any) :=
  .br (atHead g.1.2.2.2.2.1 g.1.2.2.2.2.2.1 g.1.2.2.2.1 && (fitL g.1.2.2.2.1 && shortL g.1.2.2.2.1 && isNil g.1.2.2.1)) (.leaf (ex_Any g.2.1 g.1.2.1 (notL g.1.2.2.2.1))) .fail
theorem notL_fold : ∀ (l m : List (TCT cC)), l.foldl (fun o c => o ++ [mk (notF (un c))]) m = m ++ notL l
  | [], m => by simp [notL]
  | x :: l, m => by
    simp only [List.foldl_cons, notL, List.map_cons]
    rw [notL_fold l]
    simp [notL]
/-! All, Any -/
def checkF (l : List (TCT cC)) : Int := bif decide ((l.length : Int) > 64) then 6 else bif validL l then 0 else 2
def T_check (l : List (TCT cC)) : Tree (Int × Unit) := bif decide ((l.length : Int) > 64) then .leaf (6, ()) else bif l.any (p_Bad ()) then .leaf (2, ()) else .leaf (0, ())
theorem T_check_ok (l : List (TCT cC)) : (T_check l).sat (fun y => y = (checkF l, ())) := by
  unfold T_check checkF
  have : l.any (p_Bad ()) = !validL l := by
    unfold validL p_Bad
    rw [List.any_eq_not_all_not]
    simp
  rw [this]
  cases decide ((l.length : Int) > 64) <;> cases validL l <;> exact rfl
abbrev s_check : PureT := spec [cCs] [cI] (fun _ => true) (fun x => (checkF x.1, ()))
theorem q_check : PureOk Tryz.prog 23 s_check := q_by (ctx_ok mixed (puOk_cons is_cfBad.plain q_cfBad puOk_nil) (fns_cons is_check fns_nil)) 6 (fun x => T_check x.1) (fun x => by kernel_rfl) fun _ _ _ => T_check_ok _
def plCk0 : List (Nat × PureT) := [(23, s_check)]
theorem puCk0 : PuOk Tryz.prog plCk0 := puOk_cons is_check.plain q_check puOk_nil
abbrev cM : Ch := (1000000, 1000000)
def aF (l : List (TCT cC)) : Ch := bif decide (checkF l = 0) then allF l cM else (0, 0)
abbrev s_All : PureT := spec [cCs] [cC, cI] (fun _ => true) (fun x => (((aF x.1).1, (aF x.1).2, ()), checkF x.1, ()))
noncomputable def X_All : Ctx := ctxL Tryz.prog plCk0 [(11, Tryz.f11)] [((11, keyOf lb_All), loopSum L_All E_All fin_All)]
theorem X_All_ok : CtxOk X_All := ctxL_ok mixed puCk0 (fns_cons is_tAll fns_nil) (loops_one rfl (by kernel_rfl) l_All)
end V
end Go.Proofs.YtialgmhhkbdegaaGreat
