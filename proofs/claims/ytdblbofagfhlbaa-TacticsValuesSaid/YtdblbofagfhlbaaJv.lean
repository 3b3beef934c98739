/- The reference's exported functions; the law TacticsValues. -/
import Derived.Test.YtdblbofagfhlbaaJu
namespace Go.Proofs.Ytdblbofagfhlbaa
open Go.RowKit
namespace V
namespace K9
theorem is_rValue : FnIs Try.prog (27, Try.f27) := ⟨Try.func27, by kernel_rfl, by kernel_rfl⟩
theorem is_rWorth : FnIs Try.prog (29, Try.f29) := ⟨Try.func29, by kernel_rfl, by kernel_rfl⟩
theorem is_rBest : FnIs Try.prog (31, Try.f31) := ⟨Try.func31, by kernel_rfl, by kernel_rfl⟩
theorem is_rPlan : FnIs Try.prog (33, Try.f33) := ⟨Try.func33, by kernel_rfl, by kernel_rfl⟩
theorem is_TacticsValues : FnIs Try.prog (8, Try.f8) := ⟨Try.func8, by kernel_rfl, by kernel_rfl⟩
/-! the best act -/
def foldI {S α : Type} (f : Nat → α → S → Option S) : Nat → List α → S → Option S
  | _, [], s => some s
  | i, a :: l, s => match f i a s with
    | some s' => foldI f (i + 1) l s'
    | none => none
theorem runO_foldI {S α E : Type} (f : Nat → α → S → Option S) (ex : S → E) : ∀ (l : List α) (i : Nat) (s s' : S), foldI f i l s = some s' → runO (fun i a s => (f i a s).map Sum.inl) (fun s => some (ex s)) i l s = some (ex s')
  | [], i, s, s', h => by cases h; rfl
  | a :: l, i, s, s', h => by
    simp only [foldI] at h
    simp only [runO]
    cases hg : f i a s with
    | none => rw [hg] at h; cases h
    | some s1 => rw [hg] at h; exact runO_foldI f ex l (i + 1) s1 s' h
def stI (V : VR) (b : TCT cB) (x : TCT cSc) (i : Nat) (a : TCT cA) (s : Sb) : Option Sb := (wR V b x a s.2.2).map fun w => bif decide (s.1 < 0) then ((i : Int), w.1, w.2) else bif decide (w.1.1 > s.2.1.1) then ((i : Int), w.1, w.2) else (s.1, s.2.1, w.2)
theorem it_lb {V : VR} {b : TCT cB} {x : TCT cSc} {l : List (TCT cA)} (hn : (l.length : Int) ≤ maxK .i64) {s s' : Sb} (h : foldI (stI V b x) 0 l s = some s') : iter (stg_lb V) (l.length + 1) (hd_lb b x l s.1 0 zA zC s.2.1 s.2.2) = some (ex_lb l s'.1 zA zC s'.2.1 s'.2.2) := by
  refine iter_list l (fun i (s : Sb) => hd_lb b x l s.1 (i : Int) zA zC s.2.1 s.2.2) (fun i a s => (stI V b x i a s).map Sum.inl) (fun s => some (ex_lb l s.1 zA zC s.2.1 s.2.2)) (fun _ _ => True) ?_ ?_ l.length 0 s _ _ (by omega) (by omega) trivial (by rw [List.drop_zero]; exact runO_foldI (stI V b x) (fun (s : Sb) => ex_lb l s.1 zA zC s.2.1 s.2.2) l 0 s s' h)
  · intro i s hi _
    have hst : (stg_lb V (hd_lb b x l s.1 (i : Int) zA zC s.2.1 s.2.2)) = bif (wR V b x l[i] s.2.2).isSome then
        bif decide (s.1 < 0) then .leaf (.inl (hd_lb b x l (i : Int) ((i + 1 : Nat) : Int) zA zC (gvK (wR V b x l[i] s.2.2)) (gkK (wR V b x l[i] s.2.2))))
        else bif decide ((gvK (wR V b x l[i] s.2.2)).1 > s.2.1.1) then .leaf (.inl (hd_lb b x l (i : Int) ((i + 1 : Nat) : Int) zA zC (gvK (wR V b x l[i] s.2.2)) (gkK (wR V b x l[i] s.2.2))))
        else .leaf (.inl (hd_lb b x l s.1 ((i + 1 : Nat) : Int) zA zC s.2.1 (gkK (wR V b x l[i] s.2.2)))) else .fail := by
      show st_lb V b x l s.1 (i : Int) zA zC s.2.1 s.2.2 = _
      unfold st_lb idx
      rw [forS_in (by omega) (by omega), decide_eq_true (show 0 ≤ (i : Int) ∧ (i : Int) < (l.length : Int) by omega), W64_succ hi hn]
      have ht : (i : Int).toNat = i := by omega
      rw [ht, getA_lt hi]
      rfl
    rw [hst]
    unfold stI
    cases wR V b x l[i] s.2.2 with
    | none => trivial
    | some w =>
      refine ⟨?_, trivial⟩
      show (bif decide (s.1 < 0) then Tree.leaf (.inl (hd_lb b x l (i : Int) ((i + 1 : Nat) : Int) zA zC (gvK (some w)) (gkK (some w)))) else bif decide (w.1.1 > s.2.1.1) then .leaf (.inl (hd_lb b x l (i : Int) ((i + 1 : Nat) : Int) zA zC (gvK (some w)) (gkK (some w))))
        else .leaf (.inl (hd_lb b x l s.1 ((i + 1 : Nat) : Int) zA zC s.2.1 (gkK (some w)))) : Tree (L_lb.T ⊕ Left' E_lb')).run = some (Sum.inl (hd_lb b x l (bif decide (s.1 < 0) then ((i : Int), w.1, w.2) else bif decide (w.1.1 > s.2.1.1) then ((i : Int), w.1, w.2) else (s.1, s.2.1, w.2) : Sb).1 ((i + 1 : Nat) : Int) zA zC
          (bif decide (s.1 < 0) then ((i : Int), w.1, w.2) else bif decide (w.1.1 > s.2.1.1) then ((i : Int), w.1, w.2) else (s.1, s.2.1, w.2) : Sb).2.1 (bif decide (s.1 < 0) then ((i : Int), w.1, w.2) else bif decide (w.1.1 > s.2.1.1) then ((i : Int), w.1, w.2) else (s.1, s.2.1, w.2) : Sb).2.2))
      generalize decide (s.1 < 0) = d1
      generalize decide (w.1.1 > s.2.1.1) = d2
      cases d1 <;> cases d2 <;> rfl
  · intro s e _ he
    cases he
    show (st_lb V b x l s.1 (l.length : Int) zA zC s.2.1 s.2.2).run = _
    unfold st_lb
    rw [forS_out (by omega)]
    rfl
def pickB (l : List (TCT cA)) (s : Sb) : RBp := bif decide (s.1 < 0) then some (zA, zC, s.2.2) else bif decide (0 ≤ s.1 ∧ s.1 < (l.length : Int)) then some (getA l s.1.toNat (dflt cA), s.2.1, s.2.2) else none
def bR9 (V : VR) (b : TCT cB) (x : TCT cSc) (k : Kn) : RBp := bif bOk b && placeOk b x then (foldI (stI V b x) 0 (actsF b (placeF x)) (-1, zC, k)).bind (pickB (actsF b (placeF x))) else none
def gaB (r : RBp) : TCT cA := match r with
  | some t => (t.1.1, t.1.2.1, t.1.2.2.1, t.1.2.2.2.1, ())
  | none => (0, 0, 0, 0, ())
def gcB (r : RBp) : TCT cC := match r with
  | some t => (t.2.1.1, t.2.1.2.1, ())
  | none => (0, 0, ())
def gkB (r : RBp) : Kn := match r with
  | some t => t.2.2
  | none => []
def res_rbe (r : RBp) : LeftF E_rbe := ⟨true, (((gaB r).1, (gaB r).2.1, (gaB r).2.2.1, (gaB r).2.2.2.1, ()), ((gcB r).1, (gcB r).2.1, ()), ()), ((gkB r, ()), ())⟩
def brB (r : RBp) : Tree (LeftF E_rbe) := .br r.isSome (.leaf (res_rbe r)) .fail
def fin_rbe (V : VR) (g : L_rv.T) : Tree (LeftF E_rbe) := brB (bR9 V g.1.2.1 g.1.2.2.1 g.2.1.1)
abbrev sp_rb (V : VR) : Heap → Nat → List AV → Tree (Out × Heap × Nat) := fspec probeK L_rv E_rbe (fin_rbe V)
theorem T_rb9_sat {V : VR} {b : TCT cB} {x : TCT cSc} {k : Kn} {R : LeftF E_rbe → Prop} (h : (brB (bR9 V b x k)).sat R) : (T_rb9 V b x k).sat R := by
  obtain ⟨h1, h2⟩ := h
  cases hs : (bR9 V b x k).isSome with
  | false => exact (h2 hs).elim
  | true =>
    have h1 := h1 hs
    clear h2
    unfold bR9 at h1 hs
    unfold T_rb9
    cases ho : (bOk b && placeOk b x) with
    | false => rw [ho] at hs; cases hs
    | true =>
      rw [ho] at h1 hs
      simp only [cond_true] at h1 hs ⊢
      cases hf : foldI (stI V b x) 0 (actsF b (placeF x)) (-1, zC, k) with
      | none => rw [hf] at hs; cases hs
      | some s =>
        rw [hf, Option.bind_some] at h1 hs
        rw [Bool.and_eq_true] at ho
        have hl := acts_short ho.1 ho.2
        have e : y_lb V b x k = some (ex_lb (actsF b (placeF x)) s.1 zA zC s.2.1 s.2.2) := it_lb (s := (-1, zC, k)) (by simp only [maxK]; omega) hf
        rw [e]
        show (T_rb2 (actsF b (placeF x)) s.1 s.2.1 s.2.2).sat R
        unfold T_rb2
        unfold pickB at h1 hs
        cases hd : decide (s.1 < 0) with
        | true => rw [hd] at h1; exact h1
        | false =>
          rw [hd] at h1 hs
          simp only [cond_false] at h1 hs ⊢
          cases hd2 : decide (0 ≤ s.1 ∧ s.1 < ((actsF b (placeF x)).length : Int)) with
          | false => rw [hd2] at hs; cases hs
          | true => rw [hd2] at h1; exact h1
theorem E_rbe_nx (b : Bool) : 1000 ≤ (E_rbe b).nx := by cases b <;> exact Nat.le_of_ble_eq_true rfl
theorem X_rb2_ok {V : VR} (h : SpecOk Try.prog 67 (sp_rw V)) : CtxOk (X_rb2 V) := ctxS_ok mixed puRv (fns_cons is_rbest fns_nil) (loops_one (lb := lb_rb) (by kernel_rfl) (by kernel_rfl) (l_lb h)) (one_spec is_rworth.plain h)
theorem sp_rb_ok {V : VR} (h : SpecOk Try.prog 67 (sp_rw V)) : SpecOk Try.prog 69 (sp_rb V) :=
  fspec_ok (X := X_rb2 V) (X_rb2_ok h) 6 E_rbe_nx fun g R _ hf => by
    rw [e_rb9]
    exact sat_loose (T_rb9_sat hf) fun x hx _ => hx
/-- what the search of the best act has, and what the plain law has -/
def Rel9 (b : TCT cB) (p : TCT cP) (l : List (TCT cA)) (i : Nat) (s : Sb) (w : Sw) : Prop :=
  (s.1 < 0 ∧ w.2.1 = false) ∨ (0 ≤ s.1 ∧ s.1 < (i : Int) ∧ w.2.1 = true ∧ getA l s.1.toNat (dflt cA) = w.1 ∧ s.2.1 = wF (Val b) b p w.1 ∧ w.2.2 = wL b p w.1)
theorem best9 {b : TCT cB} (hbb : bOk b = true) {x : TCT cSc} (hp : placeOk b x = true) (l : List (TCT cA)) (hl : ∀ a ∈ l, a ∈ actsF b (placeF x)) : ∀ (j i : Nat) (s : Sb) (w : Sw), i + j = l.length → Rel9 b (placeF x) l i s w → RightK b s.2.2 →
    ∃ s', foldI (stI VRX b x) i (l.drop i) s = some s' ∧ Rel9 b (placeF x) l l.length s' ((l.drop i).foldl (stW b (placeF x)) w) ∧ RightK b s'.2.2
  | 0, i, s, w, hj, hr, hk => by
    have e : i = l.length := by omega
    subst e
    rw [List.drop_length]
    exact ⟨s, rfl, hr, hk⟩
  | j + 1, i, s, w, hj, hr, hk => by
    have hi : i < l.length := by omega
    rw [List.drop_eq_getElem_cons hi]
    obtain ⟨k', e, r⟩ := wRX_ok hbb hp (hl _ (List.getElem_mem hi)) hk
    have ei : getA l ((i : Int)).toNat (dflt cA) = l[i] := by
      rw [show ((i : Int)).toNat = i by omega]
      exact getA_lt hi _
    have est : stI VRX b x i l[i] s = some (bif decide (s.1 < 0) then ((i : Int), wF (Val b) b (placeF x) l[i], k') else bif decide (wL b (placeF x) l[i] > s.2.1.1) then ((i : Int), wF (Val b) b (placeF x) l[i], k') else (s.1, s.2.1, k')) := by
      unfold stI
      rw [e]
      rfl
    simp only [foldI, List.foldl_cons]
    rw [est]
    simp only
    have new : Rel9 b (placeF x) l (i + 1) ((i : Int), wF (Val b) b (placeF x) l[i], k') (l[i], true, wL b (placeF x) l[i]) := .inr ⟨by simp only; omega, by simp only; omega, rfl, ei, rfl, rfl⟩
    rcases hr with ⟨h1, h2⟩ | ⟨h1, h2, h3, h4, h5, h6⟩
    · rw [decide_eq_true h1, cond_true]
      have ew : stW b (placeF x) w l[i] = (l[i], true, wL b (placeF x) l[i]) := by unfold stW; rw [h2]; rfl
      rw [ew]
      exact best9 hbb hp l hl j (i + 1) _ _ (by omega) new r
    · have hlt : ¬ s.1 < 0 := by omega
      rw [decide_eq_false hlt, cond_false]
      have el : s.2.1.1 = w.2.2 := by rw [h5, h6]; rfl
      rw [el]
      have ew : stW b (placeF x) w l[i] = bif decide (wL b (placeF x) l[i] > w.2.2) then (l[i], true, wL b (placeF x) l[i]) else w := by unfold stW; rw [h3]; rfl
      rw [ew]
      cases hd : decide (wL b (placeF x) l[i] > w.2.2) with
      | true => exact best9 hbb hp l hl j (i + 1) _ _ (by omega) new r
      | false => exact best9 hbb hp l hl j (i + 1) (s.1, s.2.1, k') w (by omega) (.inr ⟨h1, by simp only; omega, h3, h4, h5, h6⟩) r
def bestC (b : TCT cB) (p : TCT cP) : TCT cC := bif (bestW b p).2.1 then wF (Val b) b p (bestW b p).1 else zC
theorem bR9_ok {b : TCT cB} (hbb : bOk b = true) {x : TCT cSc} (hp : placeOk b x = true) {k : Kn} (hk : RightK b k) : ∃ k', bR9 VRX b x k = some ((bestW b (placeF x)).1, bestC b (placeF x), k') ∧ RightK b k' := by
  obtain ⟨s, e, r, hk'⟩ := best9 hbb hp (actsF b (placeF x)) (fun a h => h) (actsF b (placeF x)).length 0 (-1, zC, k) (zA, false, 0) (by omega) (.inl ⟨show (-1 : Int) < 0 by decide, rfl⟩) hk
  rw [List.drop_zero] at e r
  have r : Rel9 b (placeF x) (actsF b (placeF x)) (actsF b (placeF x)).length s (bestW b (placeF x)) := r
  refine ⟨s.2.2, ?_, hk'⟩
  unfold bR9
  rw [hbb, hp, e]
  show pickB (actsF b (placeF x)) s = _
  unfold pickB bestC
  rcases r with ⟨h1, h2⟩ | ⟨h1, h2, h3, h4, h5, h6⟩
  · rw [decide_eq_true h1, h2, cond_true, cond_false]
    rcases best_facts (b := b) (p := placeF x) with ⟨_, h⟩ | ⟨h, _⟩
    · rw [h]
    · rw [h] at h2; cases h2
  · rw [decide_eq_false (show ¬ s.1 < 0 by omega), decide_eq_true (show 0 ≤ s.1 ∧ s.1 < ((actsF b (placeF x)).length : Int) from ⟨h1, h2⟩), h3, h4, h5]
    rfl
/-! exported functions -/
abbrev Sp : Type := Nat × (Heap → Nat → List AV → Tree (Out × Heap × Nat))
def spR : List Sp := [(62, sp_known), (63, sp_rv VRX), (67, sp_rw VRX), (69, sp_rb VRX)]
theorem spR_ok : ∀ p ∈ spR, Plain Try.prog p.1 ∧ SpecOk Try.prog p.1 p.2 := fun p hp => by
  unfold spR at hp
  simp only [List.mem_cons, List.not_mem_nil, or_false] at hp
  rcases hp with rfl | rfl | rfl | rfl
  · exact ⟨is_rknown.plain, sp_known_ok⟩
  · exact ⟨is_rvalue.plain, sp_rvN 21⟩
  · exact ⟨is_rworth.plain, sp_rwN 21⟩
  · exact ⟨is_rbest.plain, sp_rb_ok (sp_rwN 21)⟩
def k1 (b : TCT cB) : Kn := List.replicate (sizeW b).toNat xC
noncomputable def X_rVa : Ctx := ctxS Try.prog plRv [(27, Try.f27)] [] spR
theorem X_rVa_ok : CtxOk X_rVa := ctxS_ok mixed puRv (fns_cons is_rValue fns_nil) no_loops spR_ok
def T_rVa (b : TCT cB) (x : TCT cSc) : Tree (TCTs [cC, cI]) := bif sceneE b x != 0 then .leaf (zC, sceneE b x, ()) else bif bOk b then bif (VRX b x (k1 b)).isSome then .leaf (((gvK (VRX b x (k1 b))).1, (gvK (VRX b x (k1 b))).2.1, ()), 0, ()) else .fail else .fail
theorem T_rVa_ok (b : TCT cB) (x : TCT cSc) : (T_rVa b x).sat (fun y => y = (((valF b x).1, (valF b x).2.1, ()), sceneE b x, ())) := by
  unfold T_rVa valF sceneE
  cases hb : bOk b with
  | false => exact rfl
  | true =>
    cases hp : placeOk b x with
    | false => exact rfl
    | true =>
      obtain ⟨k', e, _⟩ := VRX_ok hb hp (right_k0 (okB_of hb))
      have e : VRX b x (k1 b) = _ := e
      rw [e]
      exact rfl
theorem q_rValue : PureOk Try.prog 27 s_Val := q_by X_rVa_ok 8 (fun x => T_rVa x.1 x.2.1) (fun x => by kernel_rfl) fun x _ _ => T_rVa_ok _ _
noncomputable def X_rWo : Ctx := ctxS Try.prog plRv [(29, Try.f29)] [] spR
theorem X_rWo_ok : CtxOk X_rWo := ctxS_ok mixed puRv (fns_cons is_rWorth fns_nil) no_loops spR_ok
def T_rWo (b : TCT cB) (x : TCT cSc) (a : TCT cA) : Tree (TCTs [cC, cI]) := bif sceneE b x != 0 then .leaf (zC, sceneE b x, ()) else bif bOk b && placeOk b x then bif !legalB b (placeF x) a then .leaf (zC, 10, ()) else
  bif bOk b then bif (wR VRX b x a (k1 b)).isSome then .leaf (((gvK (wR VRX b x a (k1 b))).1, (gvK (wR VRX b x a (k1 b))).2.1, ()), 0, ()) else .fail else .fail else .fail
theorem T_rWo_ok (b : TCT cB) (x : TCT cSc) (a : TCT cA) : (T_rWo b x a).sat (fun y => y = (((worthV b x a).1, (worthV b x a).2.1, ()), worthE b x a, ())) := by
  unfold T_rWo worthV worthE sceneE
  cases hb : bOk b with
  | false => exact rfl
  | true =>
    cases hp : placeOk b x with
    | false => exact rfl
    | true =>
      cases hl : legalB b (placeF x) a with
      | false => exact rfl
      | true =>
        have ha : a ∈ actsF b (placeF x) := by
          unfold legalB at hl
          rw [List.any_eq_true] at hl
          obtain ⟨y, hy, he⟩ := hl
          rw [← eqAct_iff.1 he]
          exact hy
        obtain ⟨k', e, _⟩ := wRX_ok hb hp ha (right_k0 (okB_of hb))
        have e : wR VRX b x a (k1 b) = _ := e
        rw [e]
        exact rfl
theorem q_rWorth : PureOk Try.prog 29 s_Worth := q_by X_rWo_ok 8 (fun x => T_rWo x.1 x.2.1 x.2.2.1) (fun x => by kernel_rfl) fun x _ _ => T_rWo_ok _ _ _
noncomputable def X_rBe : Ctx := ctxS Try.prog plRv [(31, Try.f31)] [] spR
theorem X_rBe_ok : CtxOk X_rBe := ctxS_ok mixed puRv (fns_cons is_rBest fns_nil) no_loops spR_ok
def T_rBe (b : TCT cB) (x : TCT cSc) : Tree (TCTs [cA, cC, cI]) := bif sceneE b x != 0 then .leaf (zA, zC, sceneE b x, ()) else bif bOk b then bif (bR9 VRX b x (k1 b)).isSome then
  .leaf (((gaB (bR9 VRX b x (k1 b))).1, (gaB (bR9 VRX b x (k1 b))).2.1, (gaB (bR9 VRX b x (k1 b))).2.2.1, (gaB (bR9 VRX b x (k1 b))).2.2.2.1, ()), ((gcB (bR9 VRX b x (k1 b))).1, (gcB (bR9 VRX b x (k1 b))).2.1, ()), 0, ()) else .fail else .fail
theorem T_rBe_ok (b : TCT cB) (x : TCT cSc) : (T_rBe b x).sat (fun y => y = (((bestA b x).1, (bestA b x).2.1, (bestA b x).2.2.1, (bestA b x).2.2.2.1, ()), ((bestV b x).1, (bestV b x).2.1, ()), sceneE b x, ())) := by
  unfold T_rBe bestA bestV sceneE
  cases hb : bOk b with
  | false => exact rfl
  | true =>
    cases hp : placeOk b x with
    | false => exact rfl
    | true =>
      obtain ⟨k', e, _⟩ := bR9_ok hb hp (right_k0 (okB_of hb))
      have e : bR9 VRX b x (k1 b) = _ := e
      rw [e]
      exact rfl
theorem q_rBest : PureOk Try.prog 31 s_Best := q_by X_rBe_ok 8 (fun x => T_rBe x.1 x.2.1) (fun x => by kernel_rfl) fun x _ _ => T_rBe_ok _ _
/-! Plan -/
noncomputable def lb_rp : Code := (loopsOf (bodyOf Try.f33)).getD 0 .skip
def L_rp : Lay := { keys := [2, 3, 7, 8], ks := [.p 0 0 0 0, .p 1 0 0 0, .p 1022 0 0 0, .o 55 cA], bs := [(0, 33, kBd), (1, 36, kSc), (1022, 137, [.o 24 cC])], n := 41, nx := 6000, marks := [] }
def E_rp : XE → Lay := fun _ => { keys := [8], ks := [.o 55 cA], bs := [], n := 41, nx := 6000, marks := [] }
def hd_rp (b : TCT cB) (x : TCT cSc) (k : Kn) (o : List (TCT cA)) : L_rp.T := (((), (), (), o, ()), (cellsBd b, x, (k, ()), ()))
def ex_rp (o : List (TCT cA)) : Left' E_rp := ⟨.exit 0, ((o, ()), ())⟩
noncomputable def X_rp0 : Ctx := ctxS Try.prog plRv [] [] spR
theorem X_rp0_ok : CtxOk X_rp0 := ctxS_ok mixed puRv fns_nil no_loops spR_ok
def etaA9 (a : TCT cA) : TCT cA := (a.1, a.2.1, a.2.2.1, a.2.2.2.1, ())
def etaS9 (x : TCT cSc) : TCT cSc := (x.1, x.2.1, x.2.2.1, x.2.2.2.1, ())
def st_rp (b : TCT cB) (x : TCT cSc) (k : Kn) (o : List (TCT cA)) : Tree (L_rp.T ⊕ Left' E_rp) := bif decide (x.2.1 < (b.2.2.1.length : Int)) then
  bif (bR9 VRX b x k).isSome then bif appOk o [etaA9 (gaB (bR9 VRX b x k))] 32 then bif okR b x (etaA9 (gaB (bR9 VRX b x k))) then
    .leaf (.inl (hd_rp b (etaS9 (afR b x (etaA9 (gaB (bR9 VRX b x k))))) (gkB (bR9 VRX b x k)) (o ++ [etaA9 (gaB (bR9 VRX b x k))]))) else .fail else .fail else .fail else .leaf (.inr (ex_rp o))
def stg_rp (g : L_rp.T) : Tree (L_rp.T ⊕ Left' E_rp) := st_rp (brdB g.2.1) g.2.2.1 g.2.2.2.1.1 g.1.2.2.2.1
def fu_rp (g : L_rp.T) : Nat := g.1.2.2.2.1.length + 30
theorem l_rp : LoopOk Try.prog 33 lb_rp (loopSum L_rp E_rp (finX [.exit 0] stg_rp fu_rp)) := loopOk_x0 X_rp0_ok 7 _ L_rp E_rp (fun e => by cases e <;> exact Nat.le_refl _) _ stg_rp fu_rp (fun g => by kernel_rfl)
noncomputable def X_rPl : Ctx := ctxS Try.prog plRv [(33, Try.f33)] [((33, 6), loopSum L_rp E_rp (finX [.exit 0] stg_rp fu_rp))] spR
theorem X_rPl_ok : CtxOk X_rPl := ctxS_ok mixed puRv (fns_cons is_rPlan fns_nil) (loops_one (lb := lb_rp) (by kernel_rfl) (by kernel_rfl) l_rp) spR_ok
def y_rp (b : TCT cB) (x : TCT cSc) : Option (Left' E_rp) := iter stg_rp (([] : List (TCT cA)).length + 30) (hd_rp b x (k1 b) [])
def T_rPl (b : TCT cB) (x : TCT cSc) : Tree (TCTs [cAs, cI]) := bif sceneE b x != 0 then .leaf ([], sceneE b x, ()) else bif bOk b then bif isE (.exit 0) (y_rp b x) then .leaf ((valE (.exit 0) (y_rp b x)).1.1, 0, ()) else .fail else .fail
theorem T_rPl_eq (y : TCTs [cB, cSc]) : evFn X_rPl 8 (.fn 33) (encAs [cB, cSc] y) noHeap 0 (outK Try.prog [cAs, cI]) = T_rPl y.1 y.2.1 := by kernel_rfl
theorem acts_end {b : TCT cB} {p : TCT cP} (hp : OkP b p) : (actsF b p = [] ∧ pH p = bN b) ∨ (actsF b p ≠ [] ∧ pH p < bN b) := by
  have h := hp.h
  rw [actsF_eq]
  cases he : pH p == bN b with
  | true => exact .inl ⟨rfl, by simpa using he⟩
  | false =>
    have : pH p ≠ bN b := by simpa using he
    exact .inr ⟨by simp, by omega⟩
theorem it_rp {b : TCT cB} (hbb : bOk b = true) : ∀ (n m : Nat) (x : TCT cSc) (k : Kn) (o : List (TCT cA)), placeOk b x = true → RightK b k → mu b (placeF x) < n → n ≤ m → o.length + n ≤ 1000 →
    iter stg_rp m (hd_rp b x k o) = some (ex_rp (o ++ planF b n (placeF x)))
  | 0, _, _, _, _, _, _, h, _, _ => absurd h (Nat.not_lt_zero _)
  | n + 1, m, x, k, o, hp, hk, hn, hm, ho => by
    have hP := place_okP hp
    obtain ⟨k', e, r⟩ := bR9_ok hbb hp hk
    cases m with
    | zero => omega
    | succ m =>
      unfold planF
      rcases best_facts (b := b) (p := placeF x) with ⟨ha, h⟩ | ⟨h1, h2, _, _⟩
      · have hend : pH (placeF x) = bN b := by
          rcases acts_end hP with ⟨_, h⟩ | ⟨h, _⟩
          · exact h
          · exact absurd ha h
        rw [h, cond_false, List.append_nil]
        refine iter_out ?_
        show (st_rp b x k o).run = _
        unfold st_rp
        have hd : decide ((x.2.1 : Int) < (b.2.2.1.length : Int)) = false := decide_eq_false (show ¬ pH (placeF x) < bN b by omega)
        rw [hd]
        rfl
      · have hlt : pH (placeF x) < bN b := by
          rcases acts_end hP with ⟨h, _⟩ | ⟨_, h⟩
          · rw [h] at h2; cases h2
          · exact h
        obtain ⟨q1, q2, q3⟩ := afR_ok hbb hp h2
        have happ : appOk o [(bestW b (placeF x)).1] 32 = true := by
          rw [appOk_eq]
          exact decide_eq_true (by rw [List.length_singleton]; omega)
        have hok : okR b x (bestW b (placeF x)).1 = true := by unfold okR; rw [hbb, hp, legalB_in h2]; rfl
        have hd : decide ((x.2.1 : Int) < (b.2.2.1.length : Int)) = true := decide_eq_true (show pH (placeF x) < bN b from hlt)
        have est : (stg_rp (hd_rp b x k o)).run = some (.inl (hd_rp b (afR b x (bestW b (placeF x)).1) k' (o ++ [(bestW b (placeF x)).1]))) := by
          show (st_rp b x k o).run = _
          unfold st_rp
          rw [hd, e]
          show (bif true then bif true then bif appOk o [(bestW b (placeF x)).1] 32 then bif okR b x (bestW b (placeF x)).1 then Tree.leaf (.inl (hd_rp b (afR b x (bestW b (placeF x)).1) k' (o ++ [(bestW b (placeF x)).1]))) else .fail else .fail else .fail else .leaf (.inr (ex_rp o)) : Tree (L_rp.T ⊕ Left' E_rp)).run = _
          rw [happ, hok]
          rfl
        rw [iter_in est, it_rp hbb n m _ k' _ q1 r (by rw [q2]; omega) (by omega) (by rw [List.length_append, List.length_singleton]; omega), h1, cond_true, q2, List.append_assoc]
        rfl
theorem T_rPl_ok (b : TCT cB) (x : TCT cSc) : (T_rPl b x).sat (fun y => y = (planV b x, sceneE b x, ())) := by
  unfold T_rPl planV sceneE
  cases hb : bOk b with
  | false => exact rfl
  | true =>
    cases hp : placeOk b x with
    | false => exact rfl
    | true =>
      have hm := mu_le (okB_of hb) (place_okP hp)
      have e : y_rp b x = some (ex_rp ([] ++ planF b 30 (placeF x))) := it_rp hb 30 _ x _ [] hp (right_k0 (okB_of hb)) (by omega) (by simp) (by simp)
      rw [e]
      exact rfl
theorem q_rPlan : PureOk Try.prog 33 s_Plan := q_by X_rPl_ok 8 (fun x => T_rPl x.1 x.2.1) T_rPl_eq fun x _ _ => T_rPl_ok _ _
/-! the law -/
def plVl : List (Nat × PureT) := [(14, s_great), (15, s_wide), (17, s_Val), (27, s_Val), (28, s_Worth), (29, s_Worth), (30, s_Best), (31, s_Best), (32, s_Plan), (33, s_Plan), (13, s_fine)]
theorem puVl : PuOk Try.prog plVl := puOk_cons is_great.plain q_great (puOk_cons is_wide.plain q_wide (puOk_cons is_tValue.plain q_Val (puOk_cons is_rValue.plain q_rValue (puOk_cons is_tWorth.plain q_Worth (puOk_cons is_rWorth.plain q_rWorth (puOk_cons is_tBest.plain q_Best (puOk_cons is_rBest.plain q_rBest (puOk_cons is_tPlan.plain q_Plan (puOk_cons is_rPlan.plain q_rPlan (puOk_cons is_fine.plain q_fine puOk_nil))))))))))
noncomputable def lb_vl : Code := (loopsOf (bodyOf Try.f8)).getD 0 .skip
def L_vl : Lay := { keys := [17, 18, 19], ks := [.d cAs, .d cAs, .d cI], bs := [], n := 136, nx := 1000, marks := [] }
def E_vl : XE → Lay := fun _ => { keys := [], ks := [], bs := [], n := 136, nx := 1000, marks := [] }
def Q_vl : Lay := { keys := [6], ks := [.d .b], bs := [], n := 136, nx := 1000, marks := [] }
def E_vl' : XE → Lay
  | .ret => Q_vl
  | _ => { keys := [], ks := [], bs := [], n := 136, nx := 1000, marks := [] }
def hd_vl (l k : List (TCT cA)) (i : Int) : L_vl.T := ((l, k, i, ()), ())
def rt_vl : Left' E_vl' := ⟨.ret, ((false, ()), ())⟩
def ex_vl : Left' E_vl' := ⟨.exit 0, ((), ())⟩
def st_vl (l k : List (TCT cA)) (i : Int) : Tree (L_vl.T ⊕ Left' E_vl') := forS (l.length : Int) i (bif decide (0 ≤ i ∧ i < (k.length : Int)) then
  bif !eqAct (getA l i.toNat (dflt cA)) (getA k i.toNat (dflt cA)) then .leaf (.inr rt_vl) else .leaf (.inl (hd_vl l k (W64 (i + 1)))) else .fail) (.leaf (.inr ex_vl))
def stg_vl (g : L_vl.T) : Tree (L_vl.T ⊕ Left' E_vl') := st_vl g.1.1 g.1.2.1 g.1.2.2.1
def fu_vl (g : L_vl.T) : Nat := g.1.1.length + 1
theorem l_vl : LoopOk Try.prog 8 lb_vl (loopSum L_vl E_vl' (finX [.exit 0] stg_vl fu_vl)) := loopOk_x0 X_ss0_ok 7 _ L_vl E_vl' (fun e => by cases e <;> exact Nat.le_refl _) _ stg_vl fu_vl (fun g => by kernel_rfl)
end K9
noncomputable def X_tacticsValues : Ctx := ctxL Try.prog K9.plVl [(8, Try.f8)] [((8, 18), loopSum K9.L_vl K9.E_vl' (finX [.exit 0] K9.stg_vl K9.fu_vl))]
theorem X_tacticsValues_ok : CtxOk X_tacticsValues := ctxL_ok mixed K9.puVl (fns_cons K9.is_TacticsValues fns_nil) (loops_one (lb := K9.lb_vl) (by kernel_rfl) (by kernel_rfl) K9.l_vl)
abbrev cs_tacticsValues : List TC := [cB, cSc, cA]
namespace K9
def y_vl (b : TCT cB) (x : TCT cSc) : Option (Left' E_vl') := iter stg_vl ((planV b x).length + 1) (hd_vl (planV b x) (planV b x) 0)
def eqC9 (v w : TCT cC) : Bool := v.1 == w.1 && (v.2.1 == w.2.1 && true)
def T_vl (b : TCT cB) (x : TCT cSc) (a : TCT cA) : Tree Unit := bif greatF b then .leaf () else bif wideF x then .leaf () else
  bif !eqC9 (valF b x) (valF b x) then .fail else bif sceneE b x != sceneE b x then .fail else bif !eqC9 (worthV b x a) (worthV b x a) then .fail else bif worthE b x a != worthE b x a then .fail else
  bif !eqAct (bestA b x) (bestA b x) then .fail else bif !eqC9 (bestV b x) (bestV b x) then .fail else bif sceneE b x != sceneE b x then .fail else
  bif sceneE b x != sceneE b x then .fail else bif ((planV b x).length : Int) != ((planV b x).length : Int) then .fail else
  bif isE (.exit 0) (y_vl b x) then .leaf () else .fail
end K9
def TY_tacticsValues (y : TCTs cs_tacticsValues) : Tree Unit := K9.T_vl y.1 y.2.1 y.2.2.1
theorem TY_tacticsValues_eq (x : TCTs cs_tacticsValues) : evFn X_tacticsValues 8 (.fn 8) (encAs cs_tacticsValues x) noHeap 0 lawK = TY_tacticsValues x := by kernel_rfl
namespace K9
theorem plan_short (b : TCT cB) : ∀ (n : Nat) (p : TCT cP), (planF b n p).length ≤ n
  | 0, _ => Nat.le_refl _
  | n + 1, p => by
    unfold planF
    cases (bestW b p).2.1 with
    | false => exact Nat.zero_le _
    | true => rw [cond_true, List.length_cons]; have := plan_short b n (afterF b p (bestW b p).1); omega
theorem it_vl (l : List (TCT cA)) (hn : l.length ≤ 1000) : iter stg_vl (l.length + 1) (hd_vl l l 0) = some ex_vl := by
  have h := iter_same (st := stg_vl) (u := l) (v := l) rfl eqAct (fun i => hd_vl l l (i : Int)) rt_vl ex_vl (by
    intro i hi hj
    show (forS (l.length : Int) (i : Int) _ _).run = _
    rw [forS_in (by omega) (by omega)]
    show (bif decide (0 ≤ (i : Int) ∧ (i : Int) < (l.length : Int)) then bif !eqAct (getA l i (dflt cA)) (getA l i (dflt cA)) then Tree.leaf (.inr rt_vl) else .leaf (.inl (hd_vl l l (W64 ((i : Int) + 1)))) else .fail : Tree (L_vl.T ⊕ Left' E_vl')).run = _
    rw [decide_eq_true (show 0 ≤ (i : Int) ∧ (i : Int) < (l.length : Int) by omega), getA_lt hi, W64_succ hi (by simp only [maxK]; omega)]
    cases eqAct l[i] l[i] <;> rfl) (by
    show (forS (l.length : Int) (l.length : Int) _ _).run = _
    rw [forS_out (by omega)]
    rfl) l.length 0 (l.length + 1) (by omega) (by omega)
  rw [List.drop_zero, eqL_refl (fun x => eqAct_iff.2 rfl)] at h
  exact h
theorem T_vl_ok (b : TCT cB) (x : TCT cSc) (a : TCT cA) : (T_vl b x a).sat (fun _ => True) := by
  unfold T_vl eqC9
  have hl : (planV b x).length ≤ 30 := by
    unfold planV
    cases bOk b && placeOk b x with
    | false => exact Nat.zero_le _
    | true => exact plan_short b 30 _
  have e : y_vl b x = some ex_vl := it_vl _ (by omega)
  rw [e, eqAct_iff.2 rfl]
  simp only [beq_self_eq_true, Bool.and_self, Bool.not_true, bne_self_eq_false, cond_false]
  exact sat_cond (fun _ => trivial) fun _ => sat_cond (fun _ => trivial) fun _ => trivial
end K9
theorem tacticsValues_sat : LawSat X_tacticsValues 8 cs_tacticsValues 8 := lawSat 8 TY_tacticsValues TY_tacticsValues_eq (fun _ _ => K9.T_vl_ok _ _ _)
end V
end Go.Proofs.Ytdblbofagfhlbaa
