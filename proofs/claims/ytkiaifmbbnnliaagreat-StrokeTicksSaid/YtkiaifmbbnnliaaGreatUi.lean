import Derived.Test.YtkiaifmbbnnliaaGreatUh
namespace Go.Proofs.YtkiaifmbbnnliaaGreat
open Go.RowKit
namespace V
def stB (a : Bm) : Bm := { a with px := sX a, py := sY a, rx := DR (a.mx + a.rx) (64 * a.m), ry := DR (a.my + a.ry) (64 * a.m) }
def stOk : Nat → Bm → Bool
  | 0, _ => true
  | k + 1, a => bif fpt (sX a) (sY a) then stOk k (stB a) else false
def stE : Nat → Bm → Bm
  | 0, a => a
  | k + 1, a => bif fpt (sX a) (sY a) then stE k (stB a) else stB a
def stI : Nat → Int → Bm → Int
  | 0, i, _ => i
  | k + 1, i, a => bif fpt (sX a) (sY a) then stI k (i + 1) (stB a) else i
theorem stB_fit {a : Bm} (h : a.Fit) (k : fpt (sX a) (sY a) = true) : (stB a).Fit := by
  have ⟨_, d1, d2⟩ := dw_spec (a.mx + a.rx) (64 * a.m) (by have := h.m1; omega)
  have ⟨_, d3, d4⟩ := dw_spec (a.my + a.ry) (64 * a.m) (by have := h.m1; omega)
  have ⟨x1, x2, y1, y2⟩ := fpt_bd k
  exact ⟨h.m1, h.m2, h.r1, h.r2, k, x1, x2, y1, y2, h.mx1, h.mx2, h.my1, h.my2, by show -(32 * a.m) ≤ DR _ _; omega, by show DR _ _ ≤ 32 * a.m - 1; omega, by show -(32 * a.m) ≤ DR _ _; omega, by show DR _ _ ≤ 32 * a.m - 1; omega⟩
def Lst : Lay := { keys := [6, 7, 8, 19, 20], ks := [.p 2 0 0 0, .d cI, .p 3 0 0 0, .d cI, .d cI], bs := [(2, 62, [.d cI, .d cI, .d cI, .d cI, .d cI, .d cI]), (3, 172, [.d cI, .d cI, .d cI, .d cI, .d cI, .d cI, .d cI, .d cI])], n := 28, nx := 1000, marks := [] }
noncomputable def lb_steps : Code := (loopsOf (bodyOf Tryz.f187)).getD 0 .skip
abbrev S6 := Int × Int × Int × Int × Int × Int × Unit
def Sg (e n i : Int) (r : S6) (a : Bm) : Lst.T := (((), e, (), n, i, ()), r, (a.m, a.r, a.px, a.py, a.mx, a.my, a.rx, a.ry, ()), ())
def gB (g : Lst.T) : Bm := ⟨g.2.2.1.1, g.2.2.1.2.1, g.2.2.1.2.2.1, g.2.2.1.2.2.2.1, g.2.2.1.2.2.2.2.1, g.2.2.1.2.2.2.2.2.1, g.2.2.1.2.2.2.2.2.2.1, g.2.2.1.2.2.2.2.2.2.2.1⟩
def E_st : XE → Lay := fun _ => Lst
def stW (a : Bm) : Bm := { a with px := W64 (a.px + DvW (W64 (a.mx + a.rx)) (W64 (64 * a.m))), py := W64 (a.py + DvW (W64 (a.my + a.ry)) (W64 (64 * a.m))), rx := DvR (W64 (a.mx + a.rx)) (W64 (64 * a.m)), ry := DvR (W64 (a.my + a.ry)) (W64 (64 * a.m)) }
def st_st (e n i : Int) (r : S6) (a : Bm) : Tree (Lst.T ⊕ Left' E_st) :=
  bif decide (i < n) then bif !u_ck (stW a).px (stW a).py == 0 then .leaf (.inr ⟨.ret, Sg 4 n i (0, 0, 0, 0, 0, 0, ()) (stW a)⟩) else .leaf (.inl (Sg e n (W64 (i + 1)) r (stW a)))
  else .leaf (.inr ⟨.exit 0, Sg e n i r a⟩)
theorem stW_eq {a : Bm} (h : a.Fit) : stW a = stB a := by
  have w := stepW h
  unfold stW stB
  rw [w.w1, w.w2, w.w3, w.v1, w.v2, w.v3, w.v4, w.x, w.y]
def fin_st (g : Lst.T) : Tree (Left' E_st) :=
  .br (decide (0 ≤ g.1.2.2.2.2.1 ∧ g.1.2.2.2.2.1 ≤ g.1.2.2.2.1 ∧ g.1.2.2.2.1 ≤ 16000) && (gB g).ok)
    (.br (stOk (g.1.2.2.2.1 - g.1.2.2.2.2.1).toNat (gB g))
      (.leaf ⟨.exit 0, Sg g.1.2.1 g.1.2.2.2.1 g.1.2.2.2.1 g.2.1 (stE (g.1.2.2.2.1 - g.1.2.2.2.2.1).toNat (gB g))⟩)
      (.leaf ⟨.ret, Sg 4 g.1.2.2.2.1 (stI (g.1.2.2.2.1 - g.1.2.2.2.2.1).toNat g.1.2.2.2.2.1 (gB g)) (0, 0, 0, 0, 0, 0, ()) (stE (g.1.2.2.2.1 - g.1.2.2.2.2.1).toNat (gB g))⟩)) .fail
theorem rnds_st {step : Lst.T → Tree (Lst.T ⊕ Left' E_st)} (hs : ∀ e n i r a, step (Sg e n i r a) = st_st e n i r a) (R : Left' E_st → Prop) (e n : Int) (r : S6) (hn : n ≤ 16000) : ∀ (k : Nat) (i : Int) (a : Bm), a.Fit → 0 ≤ i → n - i = k →
    (stOk k a = true → R ⟨.exit 0, Sg e n n r (stE k a)⟩) → (stOk k a = false → R ⟨.ret, Sg 4 n (stI k i a) (0, 0, 0, 0, 0, 0, ()) (stE k a)⟩) → Rnds Lst E_st step R (k + 1) (Sg e n i r a)
  | 0, i, a, ha, hi, hk, h1, h2 => by
    have e1 : i = n := by omega
    subst e1
    intro _
    rw [hs]
    unfold st_st
    rw [show decide (i < i) = false by simp]
    exact fun _ => h1 rfl
  | k + 1, i, a, ha, hi, hk, h1, h2 => by
    intro _
    rw [hs]
    unfold st_st
    rw [stW_eq ha, show decide (i < n) = true by simp; omega, cond_true, show W64 (i + 1) = i + 1 from wrap_id (by omega) (by omega)]
    unfold stOk stE at h1
    unfold stOk stE stI at h2
    show Tree.sat _ (bif !u_ck (sX a) (sY a) == 0 then _ else _)
    unfold u_ck
    cases hc : fpt (sX a) (sY a) with
    | true =>
      rw [hc] at h1 h2
      exact rnds_st hs R e n r hn k (i + 1) (stB a) (stB_fit ha hc) (by omega) (by omega) h1 h2
    | false =>
      rw [hc] at h1 h2
      exact fun _ => h2 rfl
noncomputable def X_st : Ctx := ctx Tryz.prog plS [(200, Tryz.f200), (205, Tryz.f205), (180, Tryz.f180)]
theorem X_st_ok : CtxOk X_st := ctx_ok mixed puS (fns_cons is_rollstep (fns_cons is_rollstep1 (fns_cons is_each fns_nil)))
theorem l_steps : LoopOk Tryz.prog 187 lb_steps (loopSum Lst E_st fin_st) := by
  refine loopOk_of X_st_ok 7 187 (fun _ => none) (fun _ _ f h => by simp at h) Lst E_st (fun _ => Nat.le_refl _) fin_st (fun g => st_st g.1.2.1 g.1.2.2.2.1 g.1.2.2.2.2.1 g.2.1 (gB g)) (fun g => by kernel_rfl) ?_
  intro g R _ hf
  obtain ⟨hf, h0⟩ := hf
  cases hc : (decide (0 ≤ g.1.2.2.2.2.1 ∧ g.1.2.2.2.2.1 ≤ g.1.2.2.2.1 ∧ g.1.2.2.2.1 ≤ 16000) && (gB g).ok) with
  | false => exact (h0 hc).elim
  | true =>
    obtain ⟨h1, h2⟩ := hf hc
    rw [Bool.and_eq_true] at hc
    obtain ⟨k1, k2, k3⟩ := of_decide_eq_true hc.1
    exact ⟨_, rnds_st (fun _ _ _ _ _ => rfl) R g.1.2.1 g.1.2.2.2.1 g.2.1 k3 (g.1.2.2.2.1 - g.1.2.2.2.2.1).toNat g.1.2.2.2.2.1 (gB g) (Bm.fit hc.2) k1 (Int.toNat_of_nonneg (Int.sub_nonneg.2 k2)).symm h1 h2⟩
noncomputable def X_steps : Ctx := ctxL Tryz.prog plS [(187, Tryz.f187)] [((187, 6), loopSum Lst E_st fin_st)]
theorem X_steps_ok : CtxOk X_steps := ctxL_ok mixed puS (fns_cons is_steps fns_nil) (loops_one (by kernel_rfl) (by kernel_rfl) l_steps)
def mot (a : Bm) : TCT cMot := ((a.px, a.py, ()), (a.mx, a.my, ()), (a.rx, a.ry, ()), ())
def stepsR (n : Int) (a : Bm) : RMot := bif !a.ok then (noMot, 2, ()) else bif stOk n.toNat a then (mot (stE n.toNat a), 0, ()) else (noMot, 4, ())
def T_steps (n : Int) (a : Bm) : Tree RMot :=
  bif okE a.ok != 0 then .leaf (noMot, okE a.ok, ()) else
  bif decide ((0:Int) ≤ 0 ∧ 0 ≤ n ∧ n ≤ 16000) && a.ok then bif stOk (Int.toNat (n - 0)) a then .leaf (mot (stE (Int.toNat (n - 0)) a), 0, ()) else .leaf (noMot, 4, ()) else .fail
theorem T_steps_ok (n : Int) (a : Bm) (h : decide (0 ≤ n ∧ n ≤ 16000) = true) : (T_steps n a).sat (fun y => y = stepsR n a) := by
  obtain ⟨h1, h2⟩ := of_decide_eq_true h
  unfold T_steps stepsR okE
  rw [Int.sub_zero]
  cases ha : a.ok with
  | false => exact rfl
  | true =>
    rw [show decide ((0:Int) ≤ 0 ∧ 0 ≤ n ∧ n ≤ 16000) = true by simp; omega]
    cases hb : stOk n.toNat a <;> exact rfl
abbrev s_steps : PureT := spec [cBall, cMot, cI] [cMot, cI] (fun x => decide (0 ≤ x.2.2.1 ∧ x.2.2.1 ≤ 16000)) (fun x => etaM (stepsR x.2.2.1 (bm x.1 x.2.1)))
theorem q_steps : PureOk Tryz.prog 187 s_steps := q_by X_steps_ok 7
  (fun x => T_steps x.2.2.1 (bm x.1 x.2.1)) (fun x => by kernel_rfl) fun _ hok _ => T_steps_ok _ _ hok
def plTi : List (Nat × PureT) := (187, s_steps) :: plS
theorem puTi : PuOk Tryz.prog plTi := puOk_cons is_steps.plain q_steps puS
def Lrt : Lay := { keys := [2, 3, 4, 6, 7, 8], ks := [.d cI, .p 0 0 0 0, .p 1 0 0 0, .p 2 0 0 0, .d cI, .d cI], bs := [(0, 117, [.d cI, .d cI]), (1, 62, [.d cI, .d cI, .d cI, .d cI, .d cI, .d cI]), (2, 62, [.d cI, .d cI, .d cI, .d cI, .d cI, .d cI])], n := 41, nx := 1000, marks := [] }
def hB (g : Lrt.T) : Bm := ⟨g.2.1.1, g.2.1.2.1, g.2.2.1.1, g.2.2.1.2.1, g.2.2.1.2.2.1, g.2.2.1.2.2.2.1, g.2.2.1.2.2.2.2.1, g.2.2.1.2.2.2.2.2.1⟩
end V
end Go.Proofs.YtkiaifmbbnnliaaGreat
