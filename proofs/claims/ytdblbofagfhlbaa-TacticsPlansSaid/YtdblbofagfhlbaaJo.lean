/- The law TacticsPlans: for all arguments it returns true. -/
import Derived.Test.YtdblbofagfhlbaaJn
namespace Go.Proofs.Ytdblbofagfhlbaa
open Go.RowKit
namespace V
theorem is_TacticsPlans : FnIs Try.prog (10, Try.f10) := ⟨Try.func10, by kernel_rfl, by kernel_rfl⟩
def plJo : List (Nat × PureT) := (32, s_Plan) :: plJl
theorem puJo : PuOk Try.prog plJo := puOk_cons is_tPlan.plain q_Plan puJl
noncomputable def X_pn0 : Ctx := ctx Try.prog plJo []
theorem X_pn0_ok : CtxOk X_pn0 := ctx_ok mixed puJo fns_nil
noncomputable def lb_pn : Code := (loopsOf (bodyOf Try.f10)).getD 0 .skip
def bs_pn : List BK := [(0, 33, kBd), (1, 36, kSc), (2, 70, [.d .b, .d .b])]
def L_pn : Lay := { keys := [2, 3, 5, 7, 8, 9], ks := [.p 0 0 0 0, .p 1 0 0 0, .d cAs, .d cI, .p 2 0 0 0, .d cI], bs := bs_pn, n := 118, nx := 1000, marks := [] }
def R_pn : Lay := { keys := [2, 3, 7], ks := [.p 0 0 0 0, .p 1 0 0 0, .d cI], bs := [(0, 33, kBd), (1, 36, kSc)], n := 118, nx := 1000, marks := [] }
def Q_pn : Lay := { keys := [4], ks := [.d .b], bs := [], n := 118, nx := 1000, marks := [] }
def E_pn : XE → Lay
  | .ret => Q_pn
  | _ => R_pn
structure Spn where
  x : TCT cSc
  left : Int
  h0 : Bool
  h1 : Bool
def hd_pn (b : TCT cB) (l : List (TCT cA)) (i : Int) (s : Spn) : L_pn.T := (((), (), l, s.left, (), i, ()), (cellsBd b, s.x, (s.h0, s.h1, ()), ()))
def ex_pn (b : TCT cB) (s : Spn) : Left' E_pn := ⟨.exit 0, (((), (), s.left, ()), (cellsBd b, s.x, ()))⟩
def rt_pn : Left' E_pn := ⟨.ret, ((false, ()), ())⟩
abbrev Tpn := Tree (L_pn.T ⊕ Left' E_pn)
def RTpn : Tpn := .leaf (.inr rt_pn)
def st2_pn (i : Int) (h0 h1 : Bool) (k : Bool → Bool → Tpn) : Tpn := bif decide (i = ↑(0 : Nat)) then k true h1 else bif decide (i = ↑(0 + 1 : Nat)) then k h0 true else .fail
def hit_pn (i : Int) (h0 h1 : Bool) (k : Bool → Bool → Tpn) : Tpn := bif decide (i < 0) then RTpn else bif decide (i > 1) then RTpn else
  bif decide (i = ↑(0 : Nat)) then bif h0 then RTpn else st2_pn i h0 h1 k else bif decide (i = ↑(0 + 1 : Nat)) then bif h1 then RTpn else st2_pn i h0 h1 k else .fail
def end_pn (b : TCT cB) (l : List (TCT cA)) (i : Int) (x : TCT cSc) (left : Int) (h0 h1 : Bool) : Tpn := bif worthE b x (bestA b x) != 0 then RTpn else .leaf (.inl (hd_pn b l (W64 (i + 1)) ⟨afterV b x (bestA b x), left, h0, h1⟩))
def st_pn (b : TCT cB) (l : List (TCT cA)) (i : Int) (s : Spn) : Tpn := bif decide (i < (l.length : Int)) then
  bif sceneE b s.x != 0 then RTpn else bif decide (0 ≤ i ∧ i < (l.length : Int)) then bif !eqAct (bestA b s.x) (getA l i.toNat (dflt cA)) then RTpn else
    bif (bestA b s.x).1 == 1 then end_pn b l i s.x (W64 (s.left - 1)) false false else bif (bestA b s.x).1 == 2 then hit_pn (bestA b s.x).2.1 s.h0 s.h1 fun h0 h1 => end_pn b l i s.x s.left h0 h1 else RTpn
  else .fail else .leaf (.inr (ex_pn b s))
def spn (g : L_pn.T) : Spn := ⟨g.2.2.1, g.1.2.2.2.1, g.2.2.2.1.1, g.2.2.2.1.2.1⟩
theorem e_pn (g : L_pn.T) : evC Try.prog (evFn X_pn0 7) X_pn0.pures 10 X_pn0.u (fun _ => none) lb_pn (L_pn.of g) (stepOut L_pn E_pn) = st_pn (brdB g.2.1) g.1.2.2.1 g.1.2.2.2.2.2.1 (spn g) := by kernel_rfl
/-- an act of the plan is what the law expects -/
def okPn (b : TCT cB) (l : List (TCT cA)) (s : Spn) (k : Nat) : Bool := !(sceneE b s.x != 0) && (eqAct (bestA b s.x) (getA l k (dflt cA)) && ((bif (bestA b s.x).1 == 1 then true else ((bestA b s.x).1 == 2) &&
  ((decide ((bestA b s.x).2.1 = 0) && !s.h0) || (decide ((bestA b s.x).2.1 = 1) && !s.h1))) && !(worthE b s.x (bestA b s.x) != 0)))
def stepP (b : TCT cB) (s : Spn) : Spn := bif (bestA b s.x).1 == 1 then ⟨afterV b s.x (bestA b s.x), W64 (s.left - 1), false, false⟩ else
  ⟨afterV b s.x (bestA b s.x), s.left, s.h0 || decide ((bestA b s.x).2.1 = 0), s.h1 || decide ((bestA b s.x).2.1 = 1)⟩
def g_pn (b : TCT cB) (l : List (TCT cA)) (s : Spn) (k : Nat) : Option (Spn ⊕ Unit) := bif okPn b l s k then some (.inl (stepP b s)) else none
def all_pn (b : TCT cB) (l : List (TCT cA)) (s : Spn) : Option (Spn ⊕ Unit) := foldX (g_pn b l) (List.range l.length) s
def s0_pn : Spn := ⟨zSc, 0, false, false⟩
def fin_pn' (b : TCT cB) (l : List (TCT cA)) (i : Int) (s : Spn) : Tree (Left' E_pn) := .br (shortA l i && okX (all_pn b l s)) (.leaf (ex_pn b (gX s0_pn (all_pn b l s)))) .fail
def fin_pn (g : L_pn.T) : Tree (Left' E_pn) := fin_pn' (brdB g.2.1) g.1.2.2.1 g.1.2.2.2.2.2.1 (spn g)
theorem st_pn_ok {b : TCT cB} {l : List (TCT cA)} {k : Nat} {s : Spn} {Q : L_pn.T ⊕ Left' E_pn → Prop} (hk : k < l.length) (hn : l.length ≤ 1000) (h : okPn b l s k = true) (hQ : Q (.inl (hd_pn b l ((k + 1 : Nat) : Int) (stepP b s)))) : (st_pn b l (k : Int) s).sat Q := by
  unfold okPn at h
  simp only [Bool.and_eq_true, Bool.not_eq_true'] at h
  obtain ⟨h1, h2, h3, h4⟩ := h
  unfold st_pn
  rw [decide_eq_true (show (k : Int) < l.length by omega), cond_true, h1, cond_false]
  rw [decide_eq_true (show 0 ≤ (k : Int) ∧ (k : Int) < l.length by omega), cond_true]
  have ht : (k : Int).toNat = k := by omega
  have hw : W64 ((k : Int) + 1) = ((k + 1 : Nat) : Int) := W64_id (by omega) (by omega)
  rw [ht, h2]
  simp only [Bool.not_true, cond_false]
  unfold end_pn
  rw [h4, hw]
  simp only [cond_false]
  unfold stepP at hQ
  cases c1 : (bestA b s.x).1 == 1 with
  | true => rw [c1] at hQ; exact hQ
  | false =>
    rw [c1, cond_false] at h3 hQ
    rw [Bool.and_eq_true] at h3
    rw [h3.1]
    simp only [cond_false, cond_true]
    have h5 := h3.2
    generalize hi : (bestA b s.x).2.1 = i at h5 hQ ⊢
    rw [Bool.or_eq_true, Bool.and_eq_true, Bool.and_eq_true] at h5
    unfold hit_pn st2_pn
    rcases h5 with ⟨h6, h7⟩ | ⟨h6, h7⟩
    · have h6 : i = 0 := of_decide_eq_true h6
      have h7 : s.h0 = false := by simpa using h7
      subst h6
      rw [h7] at hQ ⊢
      have e : (s.h1 || decide ((0 : Int) = 1)) = s.h1 := by cases s.h1 <;> rfl
      rw [e] at hQ
      exact hQ
    · have h6 : i = 1 := of_decide_eq_true h6
      have h7 : s.h1 = false := by simpa using h7
      subst h6
      rw [h7] at hQ ⊢
      have e : (s.h0 || decide ((1 : Int) = 0)) = s.h0 := by cases s.h0 <;> rfl
      rw [e] at hQ
      exact hQ
theorem l_pn : LoopOk Try.prog 10 lb_pn (loopSum L_pn E_pn fin_pn) := by
  refine loopOk_of (X := X_pn0) X_pn0_ok 7 10 (fun _ => none) (fun _ _ f h => by simp at h) L_pn E_pn (fun e => by cases e <;> exact Nat.le_refl _) fin_pn (fun g => st_pn (brdB g.2.1) g.1.2.2.1 g.1.2.2.2.2.2.1 (spn g)) e_pn ?_
  intro g R _ hf
  have key : ∀ (b : TCT cB) (l : List (TCT cA)) (i : Int) (s : Spn), (fin_pn' b l i s).sat R → ∃ n, Rnds L_pn E_pn (fun g => st_pn (brdB g.2.1) g.1.2.2.1 g.1.2.2.2.2.2.1 (spn g)) R n (hd_pn b l i s) := by
    intro b l i s hf
    obtain ⟨hf, h0⟩ := hf
    cases hk : shortA l i && okX (all_pn b l s) with
    | false => exact (h0 hk).elim
    | true =>
      have hf2 := hf hk
      rw [Bool.and_eq_true] at hk
      obtain ⟨rfl, hn⟩ := of_decide_eq_true hk.1
      cases hy : all_pn b l s with
      | none => rw [hy] at hk; cases hk.2
      | some y =>
        cases y with
        | inr u => rw [hy] at hk; cases hk.2
        | inl s' =>
          rw [hy] at hf2
          refine ⟨_, rnds_foldX (List.range l.length) (fun (k : Nat) s => hd_pn b l (k : Int) s) (g_pn b l) (fun y => match y with | .inl s => ex_pn b s | .inr _ => rt_pn) ?_ ?_ (List.range l.length).length 0 s (.inl s') (by omega) (by rw [List.drop_zero]; exact hy) hf2⟩
          · intro k s1 y1 hk1 Q _ hg hQ
            rw [List.length_range] at hk1
            rw [List.getElem_range] at hg
            show (st_pn b l (k : Int) s1).sat Q
            unfold g_pn at hg
            cases ho : okPn b l s1 k with
            | false => rw [ho] at hg; cases hg
            | true =>
              rw [ho] at hg
              cases hg
              exact st_pn_ok hk1 hn ho hQ
          · intro s1 Q hQ
            rw [List.length_range]
            show (st_pn b l (l.length : Int) s1).sat Q
            unfold st_pn
            rw [decide_eq_false (show ¬ (l.length : Int) < l.length by omega)]
            exact hQ
  exact key (brdB g.2.1) g.1.2.2.1 _ (spn g) hf
noncomputable def X_tacticsPlans : Ctx := ctxL Try.prog plJo [(10, Try.f10)] [((10, 9), loopSum L_pn E_pn fin_pn)]
abbrev cs_tacticsPlans : List TC := [cB, cSc]
def left_pn (b : TCT cB) (x : TCT cSc) : Int := W64 ((b.2.2.1.length : Int) - x.2.1)
def rs_pn (b : TCT cB) (x : TCT cSc) : Option (Spn ⊕ Unit) := all_pn b (planV b x) ⟨x, left_pn b x, false, false⟩
def T_pn (b : TCT cB) (x : TCT cSc) : Tree Unit := bif greatF b then .leaf () else bif wideF x then .leaf () else bif sceneE b x != 0 then .leaf () else
  bif sceneE b x != 0 then .fail else bif decide (((planV b x).length : Int) > W64 (3 * left_pn b x)) then .fail else
  bif shortA (planV b x) 0 && okX (rs_pn b x) then bif (gX s0_pn (rs_pn b x)).left == 0 then bif (gX s0_pn (rs_pn b x)).x.2.1 == (b.2.2.1.length : Int) then .leaf () else .fail else .fail else .fail
def TY_pn (y : TCTs cs_tacticsPlans) : Tree Unit := T_pn y.1 y.2.1
theorem TY_pn_eq (x : TCTs cs_tacticsPlans) : evFn X_tacticsPlans 8 (.fn 10) (encAs cs_tacticsPlans x) noHeap 0 lawK = TY_pn x := by kernel_rfl
/-! plain facts -/
/-- what is known while the plan is followed -/
structure InvP (b : TCT cB) (n : Nat) (rest : List (TCT cA)) (s : Spn) : Prop where
  ok : placeOk b s.x = true
  pl : rest = planF b n (placeF s.x)
  mu : mu b (placeF s.x) < n
  le : s.left = bN b - pH (placeF s.x)
  h0 : s.h0 = true → pD (placeF s.x) 0 = true
  h1 : s.h1 = true → pD (placeF s.x) 1 = true
theorem inv_step {b : TCT cB} (hb : bOk b = true) {n : Nat} {a : TCT cA} {rest l : List (TCT cA)} {s : Spn} {k : Nat} (hk : getA l k (dflt cA) = a) (h : InvP b n (a :: rest) s) : okPn b l s k = true ∧ ∃ n', InvP b n' rest (stepP b s) := by
  have hB := okB_of hb
  obtain ⟨ok, pl, hm, le, i0, i1⟩ := h
  have hP := place_okP ok
  cases n with
  | zero => exact absurd hm (Nat.not_lt_zero _)
  | succ n =>
    unfold planF at pl
    rcases best_facts (b := b) (p := placeF s.x) with ⟨_, hx⟩ | ⟨h1, h2, _, _⟩
    · rw [hx] at pl; cases pl
    · rw [h1, cond_true] at pl
      injection pl with pa pr
      have hl := legal_of hB hP h2
      have eA : bestA b s.x = (bestW b (placeF s.x)).1 := by unfold bestA; rw [hb, ok]; rfl
      rw [← pa] at eA h2 hl pr
      obtain ⟨f1, _, f3, f4, f5, _⟩ := act_facts hb ok h2
      obtain ⟨_, q, qm, _⟩ := legal_step hB hP hl
      have hs : sceneE b s.x = 0 := by unfold sceneE; rw [hb, ok]; rfl
      have ok2 : placeOk b (afterV b s.x a) = true := by rw [f3]; exact placeOk_scene q
      have hbn := hB.n
      have hh := hP.h
      have eq1 : eqAct a (getA l k (dflt cA)) = true := by rw [hk]; exact eqAct_iff.2 rfl
      unfold okPn stepP
      rw [eA, hs, eq1, f1]
      rcases hl.2 with e | hr
      · have e1 : (a.1 == 1) = true := by rw [e]; rfl
        obtain ⟨_, _, _, ph⟩ := after_run hB hP hl.1
        rw [e1]
        simp only [cond_true]
        refine ⟨rfl, n, ⟨ok2, (by show rest = planF b n (placeF (afterV b s.x a)); rw [f5]; exact pr), (by show mu b (placeF (afterV b s.x a)) < n; rw [f5]; omega), ?_, (fun h => nomatch h), (fun h => nomatch h)⟩⟩
        show W64 (s.left - 1) = bN b - pH (placeF (afterV b s.x a))
        rw [f5, e, ph, le, W64_id (by omega) (by omega)]
        omega
      · have e1 : (a.1 == 1) = false := by
          show (aK a == 1) = false
          rw [hr.k]; rfl
        have e2 : (a.1 == 2) = true := by
          show (aK a == 2) = true
          rw [hr.k]; rfl
        obtain ⟨_, _, _, ph⟩ := after_roq hP hr
        have e6 : pD (afterF b (placeF s.x) a) 0 = bif decide (aI a = 0) then true else pD (placeF s.x) 0 := by
          show (bif a.1 == 1 then false else bif decide (aI a = 0) then true else pD (placeF s.x) 0) = _
          rw [e1, cond_false]
        have e7 : pD (afterF b (placeF s.x) a) 1 = bif decide (aI a = 1) then true else pD (placeF s.x) 1 := by
          show (bif a.1 == 1 then false else bif decide (aI a = 1) then true else pD (placeF s.x) 1) = _
          rw [e1, cond_false]
        rw [e1, e2]
        simp only [cond_false]
        have ei : a.2.1 = aI a := rfl
        rw [ei]
        have hle : ∀ h0 h1 : Bool, (Spn.mk (afterV b s.x a) s.left h0 h1).left = bN b - pH (placeF (afterV b s.x a)) := by
          intro _ _
          show s.left = _
          rw [f5, ph, le]
        rcases hr.i with ⟨hi, hn, hd⟩ | ⟨hi, hn, hd⟩
        · have hf : s.h0 = false := by
            cases hx : s.h0 with
            | false => rfl
            | true => rw [i0 hx] at hd; cases hd
          rw [hi] at e6 e7 ⊢
          rw [hf]
          refine ⟨by rfl, n, ⟨ok2, (by show rest = planF b n (placeF (afterV b s.x a)); rw [f5]; exact pr), (by show mu b (placeF (afterV b s.x a)) < n; rw [f5]; omega), hle _ _, fun _ => ?_, fun h => ?_⟩⟩
          · show pD (placeF (afterV b s.x a)) 0 = true
            rw [f5, e6]; rfl
          · show pD (placeF (afterV b s.x a)) 1 = true
            rw [f5, e7]
            have h : (s.h1 || decide ((0 : Int) = 1)) = true := h
            exact i1 (by simpa using h)
        · have hf : s.h1 = false := by
            cases hx : s.h1 with
            | false => rfl
            | true => rw [i1 hx] at hd; cases hd
          rw [hi] at e6 e7 ⊢
          rw [hf]
          refine ⟨by cases s.h0 <;> rfl, n, ⟨ok2, (by show rest = planF b n (placeF (afterV b s.x a)); rw [f5]; exact pr), (by show mu b (placeF (afterV b s.x a)) < n; rw [f5]; omega), hle _ _, fun h => ?_, fun _ => ?_⟩⟩
          · show pD (placeF (afterV b s.x a)) 0 = true
            rw [f5, e6]
            have h : (s.h0 || decide ((1 : Int) = 0)) = true := h
            exact i0 (by simpa using h)
          · show pD (placeF (afterV b s.x a)) 1 = true
            rw [f5, e7]; rfl
theorem all_pn_ok {b : TCT cB} (hb : bOk b = true) {l : List (TCT cA)} : ∀ (j k n : Nat) (s : Spn), k + j = l.length → InvP b n (l.drop k) s → ∃ s' n', foldX (g_pn b l) ((List.range l.length).drop k) s = some (.inl s') ∧ InvP b n' [] s'
  | 0, k, n, s, hk, h => by
    have : k = l.length := by omega
    subst this
    rw [List.drop_length] at h
    refine ⟨s, n, ?_, h⟩
    rw [List.drop_eq_nil_of_le (by simp)]; rfl
  | j + 1, k, n, s, hk, h => by
    have hlt : k < l.length := by omega
    rw [List.drop_eq_getElem_cons hlt] at h
    obtain ⟨h1, n1, h2⟩ := inv_step hb (l := l) (k := k) (getA_lt hlt _) h
    obtain ⟨s', n', q1, q2⟩ := all_pn_ok hb j (k + 1) n1 (stepP b s) (by omega) h2
    refine ⟨s', n', ?_, q2⟩
    have e1 : (List.range l.length).drop k = k :: (List.range l.length).drop (k + 1) := by
      rw [List.drop_eq_getElem_cons (by simpa using hlt)]
      simp
    have eg : g_pn b l s k = some (.inl (stepP b s)) := by unfold g_pn; rw [h1]; rfl
    rw [e1]
    unfold foldX
    rw [eg]
    exact q1
theorem plan_len {b : TCT cB} (hb : OkB b) : ∀ (n : Nat) (p : TCT cP), OkP b p → ((planF b n p).length : Int) ≤ dep b p
  | 0, p, hp => dep_nn hp
  | n + 1, p, hp => by
    unfold planF
    rcases best_facts (b := b) (p := p) with ⟨_, hx⟩ | ⟨h1, h2, _, _⟩
    · rw [hx]; exact dep_nn hp
    · have hl := legal_of hb hp h2
      obtain ⟨_, q, _⟩ := legal_step hb hp hl
      have := plan_len hb n _ q
      have hd := dep_step hb hp hl
      rw [h1, cond_true, List.length_cons]
      omega
theorem T_pn_ok (b : TCT cB) (x : TCT cSc) : (T_pn b x).sat (fun _ => True) := by
  unfold T_pn
  refine sat_cond (fun _ => trivial) fun _ => sat_cond (fun _ => trivial) fun _ => sat_cond (fun _ => trivial) fun h => ?_
  have h0 : sceneE b x = 0 := by simpa using h
  obtain ⟨hb, hp⟩ := scene0 h0
  have hB := okB_of hb
  have hP := place_okP hp
  have hbn := hB.n
  have hh := hP.h
  have hn := hP.n
  rw [h, cond_false]
  have eL : planV b x = planF b 30 (placeF x) := by unfold planV; rw [hb, hp]; rfl
  have el : left_pn b x = bN b - pH (placeF x) := by
    show W64 (bN b - pH (placeF x)) = _
    exact W64_id (by omega) (by omega)
  have hmu := mu_le hB hP
  have hlen := plan_len hB 30 (placeF x) hP
  have hdep := dep_le hP
  have h3 : (bN b - pH (placeF x)) * (pN (placeF x) + 1) ≤ (bN b - pH (placeF x)) * 3 := Int.mul_le_mul_of_nonneg_left (by omega) (by omega)
  obtain ⟨s', n', q1, q2⟩ := all_pn_ok hb (l := planV b x) (planV b x).length 0 30 ⟨x, left_pn b x, false, false⟩ (by omega) ⟨hp, by rw [List.drop_zero, eL], (by show mu b (placeF x) < 30; omega), el, (fun h => nomatch h), (fun h => nomatch h)⟩
  rw [List.drop_zero] at q1
  have er : rs_pn b x = some (.inl s') := q1
  have hs : shortA (planV b x) 0 = true := decide_eq_true ⟨rfl, by rw [eL]; omega⟩
  rw [er, hs, el, W64_id (n := 3 * (bN b - pH (placeF x))) (by omega) (by omega), decide_eq_false (show ¬ (((planV b x).length : Int) > 3 * (bN b - pH (placeF x))) by rw [eL]; omega)]
  show (bif s'.left == 0 then bif s'.x.2.1 == (b.2.2.1.length : Int) then _ else _ else _ : Tree Unit).sat _
  obtain ⟨ok, pl, hm, le, _, _⟩ := q2
  have hend : (s'.x.2.1 == (b.2.2.1.length : Int)) = true := by
    cases n' with
    | zero => exact absurd hm (Nat.not_lt_zero _)
    | succ n' =>
      unfold planF at pl
      rcases best_facts (b := b) (p := placeF s'.x) with ⟨hx, _⟩ | ⟨h1, _⟩
      · exact acts_nil hx
      · rw [h1] at pl; cases pl
  have e2 : pH (placeF s'.x) = bN b := by
    have : (pH (placeF s'.x) == bN b) = true := hend
    simpa using this
  have e3 : (s'.left == 0) = true := by rw [le, e2]; simp
  rw [e3, hend]
  trivial
theorem X_tacticsPlans_ok : CtxOk X_tacticsPlans := ctxL_ok mixed puJo (fns_cons is_TacticsPlans fns_nil) (loops_one (lb := lb_pn) (by kernel_rfl) (by kernel_rfl) l_pn)
theorem tacticsPlans_sat : LawSat X_tacticsPlans 10 cs_tacticsPlans 8 := lawSat 8 TY_pn TY_pn_eq (fun _ _ => T_pn_ok _ _)
end V
end Go.Proofs.Ytdblbofagfhlbaa
