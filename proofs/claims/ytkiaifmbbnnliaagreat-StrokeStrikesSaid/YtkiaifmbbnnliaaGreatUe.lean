import Derived.Test.YtkiaifmbbnnliaaGreatUd
namespace Go.Proofs.YtkiaifmbbnnliaaGreat
open Go.RowKit
namespace V
def plRk : List (Nat × PureT) := (167, s_dot) :: (166, s_way) :: (165, s_close) :: plR
theorem puRk : PuOk Tryz.prog plRk := puOk_cons is_rdot.plain q_rdot (puOk_cons is_rway.plain q_rway (puOk_cons is_Close.plain q_Close puR))
abbrev s_down : PureT := spec [cI, cI] [cI] (fun x => decide (0 ≤ x.1 ∧ 0 < x.2.1)) (fun x => (W64 (x.1.tdiv x.2.1), ()))
def T_down (a b : Int) : Tree (TCTs [cI]) := bif b != 0 then bif b != 0 then bif decide (a.tmod b < 0) then .leaf (W64 (W64 (a.tdiv b) - 1), ()) else .leaf (W64 (a.tdiv b), ()) else .fail else .fail
theorem T_down_ok (a b : Int) (h : decide (0 ≤ a ∧ 0 < b) = true) : (T_down a b).sat (fun y => y = (W64 (a.tdiv b), ())) := by
  obtain ⟨h1, h2⟩ := of_decide_eq_true h
  unfold T_down
  rw [show (b != 0) = true by simp; omega, decide_eq_false (show ¬ a.tmod b < 0 by have := Int.tmod_nonneg b h1; omega)]
  exact rfl
theorem q_down : PureOk Tryz.prog 192 s_down := q_by (ctx_ok mixed puOk_nil (fns_cons is_down fns_nil)) 2 (fun x => T_down x.1 x.2.1) (fun x => by kernel_rfl) fun _ hok _ => T_down_ok _ _ hok
def plRd : List (Nat × PureT) := (192, s_down) :: plRk
theorem puRd : PuOk Tryz.prog plRd := puOk_cons is_down.plain q_down puRk
abbrev s_urge : PureT := spec [cBall, cMot, cBall, cMot] [cPt] (fun _ => true)
  (fun x => ((W64 (W64 (x.2.2.1.1 * x.2.1.2.1.1) - W64 (x.1.1 * x.2.2.2.1.2.1.1)), W64 (W64 (x.2.2.1.1 * x.2.1.2.1.2.1) - W64 (x.1.1 * x.2.2.2.1.2.1.2.1)), ()), ()))
theorem q_urge : PureOk Tryz.prog 199 s_urge := q_leaf (ctx_ok mixed puOk_nil (fns_cons is_urge fns_nil)) 2 (fun x => by kernel_rfl)
def Lrk : Lay := { keys := [3, 5, 8, 12], ks := [.d cI, .p 1 0 0 0, .p 3 0 0 0, .p 43 0 0 0], bs := [(1, 24, [.d cI, .d cI]), (3, 24, [.d cI, .d cI]), (43, 24, [.d cI, .d cI])], n := 91, nx := 45, marks := [] }
noncomputable def lb_rkick : Code := (loopsOf (bodyOf Tryz.f168)).getD 0 .skip
def Rg (r1 r2 x y ux uy be : Int) : Lrk.T := ((be, (), (), (), ()), (ux, uy, ()), (r1, r2, ()), (x, y, ()), ())
def E_rk : XE → Lay := fun _ => Lrk
def st_rk (r1 r2 x y ux uy be : Int) : Tree (Lrk.T ⊕ Left' E_rk) := bif hvS be ux uy x y then .leaf (.inl (Rg r1 r2 (half x) (half y) ux uy be)) else .leaf (.inr ⟨.exit 0, Rg r1 r2 x y ux uy be⟩)
def fin_rk (g : Lrk.T) : Tree (Left' E_rk) := .leaf ⟨.exit 0, Rg g.2.2.1.1 g.2.2.1.2.1 (hv g.1.1 g.2.1.1 g.2.1.2.1 64 g.2.2.2.1.1 g.2.2.2.1.2.1).1 (hv g.1.1 g.2.1.1 g.2.1.2.1 64 g.2.2.2.1.1 g.2.2.2.1.2.1).2 g.2.1.1 g.2.1.2.1 g.1.1⟩
theorem rnds_rk {step : Lrk.T → Tree (Lrk.T ⊕ Left' E_rk)} (hs : ∀ r1 r2 x y ux uy be, step (Rg r1 r2 x y ux uy be) = st_rk r1 r2 x y ux uy be) (R : Left' E_rk → Prop) (r1 r2 ux uy be : Int) : ∀ (n : Nat) (x y : Int), x.natAbs < 2 ^ n → y.natAbs < 2 ^ n → inK .i64 x → inK .i64 y →
    R ⟨.exit 0, Rg r1 r2 (hv be ux uy n x y).1 (hv be ux uy n x y).2 ux uy be⟩ → Rnds Lrk E_rk step R (n + 1) (Rg r1 r2 x y ux uy be)
  | 0, x, y, hx, hy, _, _, h => by
    have e1 : x = 0 := by have : (2:Nat) ^ 0 = 1 := rfl; omega
    have e2 : y = 0 := by have : (2:Nat) ^ 0 = 1 := rfl; omega
    subst e1 e2
    intro _
    rw [hs]
    unfold st_rk
    rw [hvS_zero]
    exact fun _ => h
  | n + 1, x, y, hx, hy, kx, ky, h => by
    intro _
    rw [hs]
    unfold st_rk
    unfold hv at h
    cases hc : hvS be ux uy x y with
    | true =>
      rw [hc, cond_true] at h
      obtain ⟨a1, a2⟩ := half_lt hx kx
      obtain ⟨b1, b2⟩ := half_lt hy ky
      exact rnds_rk hs R r1 r2 ux uy be n _ _ a1 b1 a2 b2 h
    | false =>
      rw [hc, cond_false] at h
      exact fun _ => h
noncomputable def X_rk0 : Ctx := ctx Tryz.prog plRk []
theorem X_rk0_ok : CtxOk X_rk0 := ctx_ok mixed puRk fns_nil
theorem l_rkick : LoopOk Tryz.prog 168 lb_rkick (loopSum Lrk E_rk fin_rk) := by
  refine loopOk_of X_rk0_ok 3 168 (fun _ => none) (fun _ _ f h => by simp at h) Lrk E_rk (fun _ => Nat.le_refl _) fin_rk (fun g => st_rk g.2.2.1.1 g.2.2.1.2.1 g.2.2.2.1.1 g.2.2.2.1.2.1 g.2.1.1 g.2.1.2.1 g.1.1) (fun g => by kernel_rfl) ?_
  intro g R hw hf
  have hw' : (WFKs Lrk.ks g.1 ∧ WFB Lrk.bs g.2) := hw
  obtain ⟨_, _, _, hb, _⟩ := hw'
  have hb' : inK .i64 g.2.2.2.1.1 ∧ inK .i64 g.2.2.2.1.2.1 := by
    simp only [WFKs, WFK, WFD] at hb
    exact ⟨hb.1, hb.2.1⟩
  exact ⟨65, rnds_rk (fun _ _ _ _ _ _ _ => rfl) R g.2.2.1.1 g.2.2.1.2.1 g.2.1.1 g.2.1.2.1 g.1.1 64 g.2.2.2.1.1 g.2.2.2.1.2.1 (inK_abs hb'.1) (inK_abs hb'.2) hb'.1 hb'.2 hf⟩
noncomputable def X_rkick : Ctx := ctxL Tryz.prog plRd [(168, Tryz.f168)] [((168, 5), loopSum Lrk E_rk fin_rk)]
theorem X_rkick_ok : CtxOk X_rkick := ctxL_ok mixed puRd (fns_cons is_rkick fns_nil) (loops_one (by kernel_rfl) (by kernel_rfl) l_rkick)
def T_rkick (nx ny ux uy re dr be : Int) : Tree (TCTs [cPt]) :=
  bif decide (0 ≤ kD nx ny ux uy ∧ 0 < kQ nx ny) then bif kQ nx ny != 0 then bif W64 (1000 * be) != 0 then bif W64 (1000 * be) != 0 then .leaf (((kK nx ny ux uy re dr be).1, (kK nx ny ux uy re dr be).2, ()), ()) else .fail else .fail else .fail else .fail
theorem T_rkick_ok (nx ny ux uy re dr be : Int) (h : kOk nx ny ux uy be = true) : (T_rkick nx ny ux uy re dr be).sat (fun y => y = (((kK nx ny ux uy re dr be).1, (kK nx ny ux uy re dr be).2, ()), ())) := by
  obtain ⟨h1, h2, h3⟩ := of_decide_eq_true h
  unfold T_rkick
  rw [show (kQ nx ny != 0) = true by simp; omega, show (W64 (1000 * be) != 0) = true by simp; omega, decide_eq_true (⟨h3, h1⟩ : 0 ≤ kD nx ny ux uy ∧ 0 < kQ nx ny)]
  exact rfl
theorem q_rkick : PureOk Tryz.prog 168 s_newKick := q_by X_rkick_ok 3
  (fun x => T_rkick x.1.1 x.1.2.1 x.2.1.1 x.2.1.2.1 x.2.2.1.1 x.2.2.1.2.1 x.2.2.2.1) (fun x => by kernel_rfl) fun _ hok _ => T_rkick_ok _ _ _ _ _ _ _ hok
end V
end Go.Proofs.YtkiaifmbbnnliaaGreat
