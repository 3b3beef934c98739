/- Total of contact and of its reference: one contract. -/
import Derived.Test.YtmmhbianajpdgaaSd
namespace Go.Proofs.Ytmmhbianajpdgaa
open Go.RowKit
namespace V
def mX (m : TCT cMot) : Int := m.2.1.1
def mY (m : TCT cMot) : Int := m.2.1.2.1
def sumX : List (TCT cMot) → Int
  | [] => 0
  | m :: s => mX m + sumX s
def sumY : List (TCT cMot) → Int
  | [] => 0
  | m :: s => mY m + sumY s
def stM (m : TCT cMot) : Bool := strongB (mX m) (mY m)
theorem stM_bd {m : TCT cMot} (h : stM m = true) : (-16777216 ≤ mX m ∧ mX m ≤ 16777216) ∧ (-16777216 ≤ mY m ∧ mY m ≤ 16777216) := by
  unfold stM strongB at h
  simp only [Bool.and_eq_true, Bool.not_eq_true'] at h
  exact ⟨out_no h.1, out_no h.2⟩
theorem zip_strong : ∀ (l : List (TCT cBall)) (s : List (TCT cMot)), l.length = s.length → (l.zip s).all okBM = true → s.all stM = true
  | [], [], _, _ => rfl
  | [], _ :: _, h, _ => by simp at h
  | _ :: _, [], h, _ => by simp at h
  | b :: l, m :: s, h, k => by
    simp only [List.zip_cons_cons, List.all_cons, Bool.and_eq_true] at k ⊢
    refine ⟨?_, zip_strong l s (by simpa using h) k.2⟩
    have f := Bm.fit k.1
    unfold stM strongB outB
    have a1 := f.mx1; have a2 := f.mx2; have a3 := f.my1; have a4 := f.my2
    have b1 : -16777216 ≤ mX m := a1
    have b2 : mX m ≤ 16777216 := a2
    have b3 : -16777216 ≤ mY m := a3
    have b4 : mY m ≤ 16777216 := a4
    simp
    omega
theorem is_Total : FnIs Try.prog (40, Try.f40) := ⟨Try.func40, by kernel_rfl, by kernel_rfl⟩
theorem is_rTotal : FnIs Try.prog (41, Try.f41) := ⟨Try.func41, by kernel_rfl, by kernel_rfl⟩
noncomputable def lb_to : Code := (loopsOf (bodyOf Try.f40)).getD 0 .skip
noncomputable def lb_rt : Code := (loopsOf (bodyOf Try.f41)).getD 0 .skip
def L_to : Lay := { keys := [4, 5, 7, 17, 18, 19], ks := [.p 0 0 0 0, .d cI, .p 1 0 0 0, .d (.sl cMot), .d cI, .d cI], bs := [(0, 25, [.d cI, .d cI]), (1, 25, [.d cI, .d cI])], n := 35, nx := 1000, marks := [] }
def L_rt : Lay := { keys := [1, 4, 5, 7, 8], ks := [.d (.sl cMot), .p 0 0 0 0, .d cI, .p 1 0 0 0, .d cI], bs := [(0, 25, [.d cI, .d cI]), (1, 25, [.d cI, .d cI])], n := 43, nx := 1000, marks := [] }
def E_to : XE → Lay := fun _ => L_to
def E_rto : XE → Lay := fun _ => L_rt
def Tg (e : Int) (s : List (TCT cMot)) (n i : Int) (p q x y : Int) : L_to.T := (((), e, (), s, n, i, ()), (p, q, ()), (x, y, ()), ())
def Ug (s : List (TCT cMot)) (e i : Int) (p q x y : Int) : L_rt.T := ((s, (), e, (), i, ()), (p, q, ()), (x, y, ()), ())
def mAt (s : List (TCT cMot)) (i : Int) : TCT cMot := getA s i.toNat (dflt cMot)
def st_to (e : Int) (s : List (TCT cMot)) (n i p q x y : Int) : Tree (L_to.T ⊕ Left' E_to) :=
  bif decide (i < n) then bif decide (0 ≤ i ∧ i < (s.length : Int)) then
    .leaf (.inl (Tg e s n (W64 (i + 1)) p q (W64 (mX (mAt s i) - W64 (0 - x))) (W64 (mY (mAt s i) - W64 (0 - y))))) else .fail else .leaf (.inr ⟨.exit 0, Tg e s n i p q x y⟩)
theorem e_to (g : L_to.T) : evC Try.prog (evFn (ctx Try.prog plSet []) 7) plSet 40 64 (fun _ => none) lb_to (L_to.of g) (stepOut L_to E_to) = st_to g.1.2.1 g.1.2.2.2.1 g.1.2.2.2.2.1 g.1.2.2.2.2.2.1 g.2.1.1 g.2.1.2.1 g.2.2.1.1 g.2.2.1.2.1 := by kernel_rfl
def st_rt' (s : List (TCT cMot)) (e i p q x y : Int) : Tree (L_rt.T ⊕ Left' E_rto) :=
  bif decide (i < (s.length : Int)) then bif decide (0 ≤ i ∧ i < (s.length : Int)) then bif decide (0 ≤ i ∧ i < (s.length : Int)) then
    .leaf (.inl (Ug s e (W64 (i + 1)) p q (W64 (x + mX (mAt s i))) (W64 (y + mY (mAt s i))))) else .fail else .fail else .leaf (.inr ⟨.exit 0, Ug s e i p q x y⟩)
theorem e_rto (g : L_rt.T) : evC Try.prog (evFn (ctx Try.prog plRSe []) 7) plRSe 41 64 (fun _ => none) lb_rt (L_rt.of g) (stepOut L_rt E_rto) = st_rt' g.1.1 g.1.2.2.1 g.1.2.2.2.2.1 g.2.1.1 g.2.1.2.1 g.2.2.1.1 g.2.2.1.2.1 := by kernel_rfl
def okT (s : List (TCT cMot)) (n i x y : Int) : Bool := decide (n = (s.length : Int) ∧ i = 0 ∧ x = 0 ∧ y = 0 ∧ s.length ≤ 1000) && s.all stM
def fin_to (g : L_to.T) : Tree (Left' E_to) :=
  .br (okT g.1.2.2.2.1 g.1.2.2.2.2.1 g.1.2.2.2.2.2.1 g.2.2.1.1 g.2.2.1.2.1) (.leaf ⟨.exit 0, Tg g.1.2.1 g.1.2.2.2.1 (g.1.2.2.2.1.length : Int) (g.1.2.2.2.1.length : Int) g.2.1.1 g.2.1.2.1 (sumX g.1.2.2.2.1) (sumY g.1.2.2.2.1)⟩) .fail
def fin_rto (g : L_rt.T) : Tree (Left' E_rto) :=
  .br (okT g.1.1 (g.1.1.length : Int) g.1.2.2.2.2.1 g.2.2.1.1 g.2.2.1.2.1) (.leaf ⟨.exit 0, Ug g.1.1 g.1.2.2.1 (g.1.1.length : Int) g.2.1.1 g.2.1.2.1 (sumX g.1.1) (sumY g.1.1)⟩) .fail
theorem sum_drop {s : List (TCT cMot)} {i : Nat} (h : i < s.length) : sumX (s.drop i) = mX (mAt s i) + sumX (s.drop (i + 1)) ∧ sumY (s.drop i) = mY (mAt s i) + sumY (s.drop (i + 1)) := by
  have e : mAt s i = getA s i (dflt cMot) := by unfold mAt; rw [show (i : Int).toNat = i by omega]
  rw [e, drop_cons h (dflt cMot)]
  exact ⟨rfl, rfl⟩
theorem at_strong {s : List (TCT cMot)} (hs : s.all stM = true) {i : Nat} (h : i < s.length) : stM (mAt s i) = true := by
  have e : mAt s i = getA s i (dflt cMot) := by unfold mAt; rw [show (i : Int).toNat = i by omega]
  rw [e]
  exact List.all_eq_true.1 hs _ (getA_mem h _)
theorem rnds_to {step : L_to.T → Tree (L_to.T ⊕ Left' E_to)} (hs : ∀ e s n i p q x y, step (Tg e s n i p q x y) = st_to e s n i p q x y) (R : Left' E_to → Prop) (e : Int) (s : List (TCT cMot)) (p q : Int) (hl : s.length ≤ 1000) (hst : s.all stM = true) (f : Nat) :
    ∀ (i : Nat) (x y : Int), i + f = s.length → -(16777216 * (i : Int)) ≤ x → x ≤ 16777216 * (i : Int) → -(16777216 * (i : Int)) ≤ y → y ≤ 16777216 * (i : Int) →
      R ⟨.exit 0, Tg e s (s.length : Int) (s.length : Int) p q (x + sumX (s.drop i)) (y + sumY (s.drop i))⟩ → Rnds L_to E_to step R (f + 1) (Tg e s (s.length : Int) (i : Int) p q x y) := by
  induction f with
  | zero =>
    intro i x y hi _ _ _ _ h
    have e1 : i = s.length := by omega
    subst e1
    intro _
    rw [hs]
    unfold st_to
    rw [decide_eq_false (show ¬ (s.length : Int) < (s.length : Int) by omega)]
    rw [List.drop_length] at h
    simp only [sumX, sumY, Int.add_zero] at h
    exact fun _ => h
  | succ f ih =>
    intro i x y hi x1 x2 y1 y2 h
    have hlt : i < s.length := by omega
    obtain ⟨m1, m2⟩ := stM_bd (at_strong hst hlt)
    obtain ⟨d1, d2⟩ := sum_drop hlt
    intro _
    rw [hs]
    unfold st_to
    rw [decide_eq_true (show (i : Int) < (s.length : Int) by omega), decide_eq_true (show 0 ≤ (i : Int) ∧ (i : Int) < (s.length : Int) by omega)]
    generalize mX (mAt s i) = u at *
    generalize mY (mAt s i) = v at *
    rw [show W64 ((i : Int) + 1) = ((i + 1 : Nat) : Int) from (wrap_id (by omega) (by omega)).trans rfl, show W64 (0 - x) = 0 - x from wrap_id (by omega) (by omega), show W64 (0 - y) = 0 - y from wrap_id (by omega) (by omega),
      show W64 (u - (0 - x)) = x + u from (wrap_id (by omega) (by omega)).trans (by omega), show W64 (v - (0 - y)) = y + v from (wrap_id (by omega) (by omega)).trans (by omega)]
    refine ih (i + 1) (x + u) (y + v) (by omega) (by omega) (by omega) (by omega) (by omega) ?_
    rw [d1, d2, ← Int.add_assoc, ← Int.add_assoc] at h
    exact h
theorem rnds_rto {step : L_rt.T → Tree (L_rt.T ⊕ Left' E_rto)} (hs : ∀ s e i p q x y, step (Ug s e i p q x y) = st_rt' s e i p q x y) (R : Left' E_rto → Prop) (e : Int) (s : List (TCT cMot)) (p q : Int) (hl : s.length ≤ 1000) (hst : s.all stM = true) (f : Nat) :
    ∀ (i : Nat) (x y : Int), i + f = s.length → -(16777216 * (i : Int)) ≤ x → x ≤ 16777216 * (i : Int) → -(16777216 * (i : Int)) ≤ y → y ≤ 16777216 * (i : Int) →
      R ⟨.exit 0, Ug s e (s.length : Int) p q (x + sumX (s.drop i)) (y + sumY (s.drop i))⟩ → Rnds L_rt E_rto step R (f + 1) (Ug s e (i : Int) p q x y) := by
  induction f with
  | zero =>
    intro i x y hi _ _ _ _ h
    have e1 : i = s.length := by omega
    subst e1
    intro _
    rw [hs]
    unfold st_rt'
    rw [decide_eq_false (show ¬ (s.length : Int) < (s.length : Int) by omega)]
    rw [List.drop_length] at h
    simp only [sumX, sumY, Int.add_zero] at h
    exact fun _ => h
  | succ f ih =>
    intro i x y hi x1 x2 y1 y2 h
    have hlt : i < s.length := by omega
    obtain ⟨m1, m2⟩ := stM_bd (at_strong hst hlt)
    obtain ⟨d1, d2⟩ := sum_drop hlt
    intro _
    rw [hs]
    unfold st_rt'
    rw [decide_eq_true (show (i : Int) < (s.length : Int) by omega), decide_eq_true (show 0 ≤ (i : Int) ∧ (i : Int) < (s.length : Int) by omega)]
    generalize mX (mAt s i) = u at *
    generalize mY (mAt s i) = v at *
    rw [show W64 ((i : Int) + 1) = ((i + 1 : Nat) : Int) from (wrap_id (by omega) (by omega)).trans rfl, show W64 (x + u) = x + u from wrap_id (by omega) (by omega), show W64 (y + v) = y + v from wrap_id (by omega) (by omega)]
    refine ih (i + 1) (x + u) (y + v) (by omega) (by omega) (by omega) (by omega) (by omega) ?_
    rw [d1, d2, ← Int.add_assoc, ← Int.add_assoc] at h
    exact h
theorem l_to : LoopOk Try.prog 40 lb_to (loopSum L_to E_to fin_to) := by
  refine loopOk_of (X := ctx Try.prog plSet []) (ctx_ok mixed puSet fns_nil) 7 40 (fun _ => none) (fun _ _ f h => by simp at h) L_to E_to (fun _ => Nat.le_refl _) fin_to (fun g => st_to g.1.2.1 g.1.2.2.2.1 g.1.2.2.2.2.1 g.1.2.2.2.2.2.1 g.2.1.1 g.2.1.2.1 g.2.2.1.1 g.2.2.1.2.1) e_to ?_
  rintro ⟨⟨_, e, _, s, n, i, _⟩, ⟨p, q, _⟩, ⟨x, y, _⟩, _⟩ R _ hf
  obtain ⟨hf, h0⟩ := hf
  cases hc : okT s n i x y with
  | false => exact (h0 hc).elim
  | true =>
    have h1 := hf hc
    unfold okT at hc
    rw [Bool.and_eq_true] at hc
    obtain ⟨k1, k2, k3, k4, k5⟩ := of_decide_eq_true hc.1
    subst k1 k2 k3 k4
    exact ⟨_, rnds_to (fun _ _ _ _ _ _ _ _ => rfl) R e s p q k5 hc.2 s.length 0 0 0 (by omega) (by omega) (by omega) (by omega) (by omega) (by rw [List.drop_zero, Int.zero_add, Int.zero_add]; exact h1)⟩
theorem l_rto : LoopOk Try.prog 41 lb_rt (loopSum L_rt E_rto fin_rto) := by
  refine loopOk_of (X := ctx Try.prog plRSe []) (ctx_ok mixed puRSe fns_nil) 7 41 (fun _ => none) (fun _ _ f h => by simp at h) L_rt E_rto (fun _ => Nat.le_refl _) fin_rto (fun g => st_rt' g.1.1 g.1.2.2.1 g.1.2.2.2.2.1 g.2.1.1 g.2.1.2.1 g.2.2.1.1 g.2.2.1.2.1) e_rto ?_
  rintro ⟨⟨s, _, e, _, i, _⟩, ⟨p, q, _⟩, ⟨x, y, _⟩, _⟩ R _ hf
  obtain ⟨hf, h0⟩ := hf
  cases hc : okT s (s.length : Int) i x y with
  | false => exact (h0 hc).elim
  | true =>
    have h1 := hf hc
    unfold okT at hc
    rw [Bool.and_eq_true] at hc
    obtain ⟨_, k2, k3, k4, k5⟩ := of_decide_eq_true hc.1
    subst k2 k3 k4
    exact ⟨_, rnds_rto (fun _ _ _ _ _ _ _ => rfl) R e s p q k5 hc.2 s.length 0 0 0 (by omega) (by omega) (by omega) (by omega) (by omega) (by rw [List.drop_zero, Int.zero_add, Int.zero_add]; exact h1)⟩
noncomputable def X_Total : Ctx := ctxL Try.prog plSet [(40, Try.f40)] [((40, 6), loopSum L_to E_to fin_to)]
theorem X_Total_ok : CtxOk X_Total := ctxL_ok mixed puSet (fns_cons is_Total fns_nil) (loops_one (by kernel_rfl) (by kernel_rfl) l_to)
noncomputable def X_rTotal : Ctx := ctxL Try.prog plRSe [(41, Try.f41)] [((41, 6), loopSum L_rt E_rto fin_rto)]
theorem X_rTotal_ok : CtxOk X_rTotal := ctxL_ok mixed puRSe (fns_cons is_rTotal fns_nil) (loops_one (by kernel_rfl) (by kernel_rfl) l_rto)
abbrev RTot := TCTs [cPt, cI]
def TotalR (l : List (TCT cBall)) (s : List (TCT cMot)) : RTot := bif chkR l s != 0 then ((0, 0, ()), chkR l s, ()) else ((sumX s, sumY s, ()), 0, ())
def T_Total (l : List (TCT cBall)) (s : List (TCT cMot)) : Tree RTot :=
  bif chkR l s != 0 then .leaf ((0, 0, ()), chkR l s, ()) else bif okT s (s.length : Int) 0 0 0 then .leaf ((sumX s, sumY s, ()), 0, ()) else .fail
theorem T_Total_ok (l : List (TCT cBall)) (s : List (TCT cMot)) : (T_Total l s).sat (fun y => y = TotalR l s) := by
  unfold T_Total TotalR
  cases hc : chkR l s != 0 with
  | true => exact rfl
  | false =>
    have hc' : chkR l s = 0 := by simpa using hc
    obtain ⟨k1, k2, k3⟩ := chk_ok hc'
    have : okT s (s.length : Int) 0 0 0 = true := by
      unfold okT
      rw [zip_strong l s k2 k3, Bool.and_true]
      exact decide_eq_true ⟨rfl, rfl, rfl, rfl, by omega⟩
    rw [this]
    exact rfl
abbrev s_Total : PureT := spec [.sl cBall, .sl cMot] [cPt, cI] (fun _ => true) (fun x => (((TotalR x.1 x.2.1).1.1, (TotalR x.1 x.2.1).1.2.1, ()), (TotalR x.1 x.2.1).2.1, ()))
theorem q_Total : PureOk Try.prog 40 s_Total := q_by X_Total_ok 5 (fun x => T_Total x.1 x.2.1) (fun x => by kernel_rfl) fun _ _ _ => T_Total_ok _ _
theorem q_rTotal : PureOk Try.prog 41 s_Total := q_by X_rTotal_ok 5 (fun x => T_Total x.1 x.2.1) (fun x => by kernel_rfl) fun _ _ _ => T_Total_ok _ _
end V
end Go.Proofs.Ytmmhbianajpdgaa
