import Derived.Test.YtkiaifmbbnnliaaGreatUc
namespace Go.Proofs.YtkiaifmbbnnliaaGreat
open Go.RowKit
namespace V
theorem is_newKick : FnIs Tryz.prog (191, Tryz.f191) := ⟨Tryz.func191, by kernel_rfl, by kernel_rfl⟩
theorem is_great : FnIs Tryz.prog (202, Tryz.f202) := ⟨Tryz.func202, by kernel_rfl, by kernel_rfl⟩
def plC : List (Nat × PureT) := (186, s_dot) :: (190, s_way) :: (189, s_close) :: plB
theorem puC : PuOk Tryz.prog plC := puOk_cons is_dot.plain q_dot (puOk_cons is_way.plain q_way (puOk_cons is_close.plain q_close puB))
def hvS (be ux uy x y : Int) : Bool := decide (W64 (be * W64 (W64 (x * x) + W64 (y * y))) > W64 (2 * W64 (W64 (ux * x) + W64 (uy * y))))
def half (x : Int) : Int := W64 (x.tdiv 2)
def hv (be ux uy : Int) : Nat → Int → Int → Int × Int
  | 0, x, y => (x, y)
  | n + 1, x, y => bif hvS be ux uy x y then hv be ux uy n (half x) (half y) else (x, y)
theorem half_lt {x : Int} {n : Nat} (h : x.natAbs < 2 ^ (n + 1)) (hx : inK .i64 x) : (half x).natAbs < 2 ^ n ∧ inK .i64 (half x) := by
  have ⟨a, b⟩ := in64 hx
  have h1 : (x.tdiv 2).natAbs = x.natAbs / 2 := Int.natAbs_tdiv x 2
  unfold half
  rw [show W64 (x.tdiv 2) = x.tdiv 2 from wrap_id (by omega) (by omega), h1]
  refine ⟨?_, ?_⟩
  · rw [Nat.pow_succ] at h; omega
  · simp only [inK, minK, maxK]; omega
theorem hvS_zero (be ux uy : Int) : hvS be ux uy 0 0 = false := by
  unfold hvS
  simp only [Int.mul_zero]
  rw [show W64 (W64 0 + W64 0) = 0 by decide, Int.mul_zero]
  decide
theorem inK_abs {x : Int} (h : inK .i64 x) : x.natAbs < 2 ^ 64 := by
  have ⟨a, b⟩ := in64 h
  have : (2 : Nat) ^ 64 = 18446744073709551616 := by decide
  omega
def Lnk : Lay := { keys := [8, 13, 14], ks := [.p 3 0 0 0, .p 4 0 0 0, .f 202 [.p 4 0 0 0] []], bs := [(3, 24, [.d cI, .d cI]), (4, 223, [.d cI, .d cI, .d cI, .d cI, .d cI])], n := 113, nx := 5, marks := [] }
noncomputable def lb_newKick : Code := (loopsOf (bodyOf Tryz.f191)).getD 0 .skip
def Lg (r1 r2 x y ux uy be : Int) : Lnk.T := (((), (), (((), ()), ()), ()), (r1, r2, ()), (x, y, ux, uy, be, ()), ())
def E_nk : XE → Lay := fun _ => Lnk
def st_nk (r1 r2 x y ux uy be : Int) : Tree (Lnk.T ⊕ Left' E_nk) := bif hvS be ux uy x y then .leaf (.inl (Lg r1 r2 (half x) (half y) ux uy be)) else .leaf (.inr ⟨.exit 0, Lg r1 r2 x y ux uy be⟩)
def fin_nk (g : Lnk.T) : Tree (Left' E_nk) := .leaf ⟨.exit 0, Lg g.2.1.1 g.2.1.2.1 (hv g.2.2.1.2.2.2.2.1 g.2.2.1.2.2.1 g.2.2.1.2.2.2.1 64 g.2.2.1.1 g.2.2.1.2.1).1 (hv g.2.2.1.2.2.2.2.1 g.2.2.1.2.2.1 g.2.2.1.2.2.2.1 64 g.2.2.1.1 g.2.2.1.2.1).2 g.2.2.1.2.2.1 g.2.2.1.2.2.2.1 g.2.2.1.2.2.2.2.1⟩
theorem rnds_nk {step : Lnk.T → Tree (Lnk.T ⊕ Left' E_nk)} (hs : ∀ r1 r2 x y ux uy be, step (Lg r1 r2 x y ux uy be) = st_nk r1 r2 x y ux uy be) (R : Left' E_nk → Prop) (r1 r2 ux uy be : Int) : ∀ (n : Nat) (x y : Int), x.natAbs < 2 ^ n → y.natAbs < 2 ^ n → inK .i64 x → inK .i64 y →
    R ⟨.exit 0, Lg r1 r2 (hv be ux uy n x y).1 (hv be ux uy n x y).2 ux uy be⟩ → Rnds Lnk E_nk step R (n + 1) (Lg r1 r2 x y ux uy be)
  | 0, x, y, hx, hy, _, _, h => by
    have e1 : x = 0 := by have : (2:Nat) ^ 0 = 1 := rfl; omega
    have e2 : y = 0 := by have : (2:Nat) ^ 0 = 1 := rfl; omega
    subst e1 e2
    intro _
    rw [hs]
    unfold st_nk
    rw [hvS_zero]
    exact fun _ => h
  | n + 1, x, y, hx, hy, kx, ky, h => by
    intro _
    rw [hs]
    unfold st_nk
    unfold hv at h
    cases hc : hvS be ux uy x y with
    | true =>
      rw [hc, cond_true] at h
      obtain ⟨a1, a2⟩ := half_lt hx kx
      obtain ⟨b1, b2⟩ := half_lt hy ky
      exact rnds_nk hs R r1 r2 ux uy be n _ _ a1 b1 a2 b2 h
    | false =>
      rw [hc, cond_false] at h
      exact fun _ => h
noncomputable def X_great : Ctx := ctx Tryz.prog plC [(202, Tryz.f202)]
theorem X_great_ok : CtxOk X_great := ctx_ok mixed puC (fns_cons is_great fns_nil)
theorem l_newKick : LoopOk Tryz.prog 191 lb_newKick (loopSum Lnk E_nk fin_nk) := by
  refine loopOk_of X_great_ok 3 191 (fun _ => none) (fun _ _ f h => by simp at h) Lnk E_nk (fun _ => Nat.le_refl _) fin_nk (fun g => st_nk g.2.1.1 g.2.1.2.1 g.2.2.1.1 g.2.2.1.2.1 g.2.2.1.2.2.1 g.2.2.1.2.2.2.1 g.2.2.1.2.2.2.2.1) (fun g => by kernel_rfl) ?_
  intro g R hw hf
  have hw' : (WFKs Lnk.ks g.1 ∧ WFB Lnk.bs g.2) := hw
  obtain ⟨_, _, hb, _⟩ := hw'
  have hb' : inK .i64 g.2.2.1.1 ∧ inK .i64 g.2.2.1.2.1 := by
    simp only [WFKs, WFK, WFD] at hb
    exact ⟨hb.1, hb.2.1⟩
  exact ⟨65, rnds_nk (fun _ _ _ _ _ _ _ => rfl) R g.2.1.1 g.2.1.2.1 g.2.2.1.2.2.1 g.2.2.1.2.2.2.1 g.2.2.1.2.2.2.2.1 64 g.2.2.1.1 g.2.2.1.2.1 (inK_abs hb'.1) (inK_abs hb'.2) hb'.1 hb'.2 hf⟩
def kQ (nx ny : Int) : Int := W64 (W64 (nx * nx) + W64 (ny * ny))
def kD (nx ny ux uy : Int) : Int := W64 (W64 (ux * nx) + W64 (uy * ny))
def kA (nx ny ux uy : Int) : Int := W64 ((kD nx ny ux uy).tdiv (kQ nx ny))
def kC (nx ny ux uy : Int) : Int := W64 ((W64 (W64 (uy * nx) - W64 (ux * ny))).tdiv (kQ nx ny))
def kX (nx ny ux uy re dr be : Int) : Int := W64 ((W64 (W64 (W64 (W64 (1000 + re) * nx) * kA nx ny ux uy) - W64 (W64 (dr * ny) * kC nx ny ux uy))).tdiv (W64 (1000 * be)))
def kY (nx ny ux uy re dr be : Int) : Int := W64 ((W64 (W64 (W64 (W64 (1000 + re) * ny) * kA nx ny ux uy) + W64 (W64 (dr * nx) * kC nx ny ux uy))).tdiv (W64 (1000 * be)))
def kK (nx ny ux uy re dr be : Int) : Int × Int := hv be ux uy 64 (kX nx ny ux uy re dr be) (kY nx ny ux uy re dr be)
def kOk (nx ny ux uy be : Int) : Bool := decide (0 < kQ nx ny ∧ 0 < W64 (1000 * be) ∧ 0 ≤ kD nx ny ux uy)
abbrev s_newKick : PureT := spec [cPt, cPt, cBnc, cI] [cPt] (fun x => kOk x.1.1 x.1.2.1 x.2.1.1 x.2.1.2.1 x.2.2.2.1)
  (fun x => (((kK x.1.1 x.1.2.1 x.2.1.1 x.2.1.2.1 x.2.2.1.1 x.2.2.1.2.1 x.2.2.2.1).1, (kK x.1.1 x.1.2.1 x.2.1.1 x.2.1.2.1 x.2.2.1.1 x.2.2.1.2.1 x.2.2.2.1).2, ()), ()))
noncomputable def X_newKick : Ctx := ctxL Tryz.prog plC [(191, Tryz.f191)] [((191, 9), loopSum Lnk E_nk fin_nk)]
theorem X_newKick_ok : CtxOk X_newKick := ctxL_ok mixed puC (fns_cons is_newKick fns_nil) (loops_one (by kernel_rfl) (by kernel_rfl) l_newKick)
def T_newKick (nx ny ux uy re dr be : Int) : Tree (TCTs [cPt]) :=
  bif kQ nx ny != 0 then bif kQ nx ny != 0 then bif W64 (1000 * be) != 0 then bif W64 (1000 * be) != 0 then .leaf (((kK nx ny ux uy re dr be).1, (kK nx ny ux uy re dr be).2, ()), ()) else .fail else .fail else .fail else .fail
theorem T_newKick_ok (nx ny ux uy re dr be : Int) (h : kOk nx ny ux uy be = true) : (T_newKick nx ny ux uy re dr be).sat (fun y => y = (((kK nx ny ux uy re dr be).1, (kK nx ny ux uy re dr be).2, ()), ())) := by
  obtain ⟨h1, h2, _⟩ := of_decide_eq_true h
  unfold T_newKick
  rw [show (kQ nx ny != 0) = true by simp; omega, show (W64 (1000 * be) != 0) = true by simp; omega]
  exact rfl
theorem q_newKick : PureOk Tryz.prog 191 s_newKick := q_by X_newKick_ok 3
  (fun x => T_newKick x.1.1 x.1.2.1 x.2.1.1 x.2.1.2.1 x.2.2.1.1 x.2.2.1.2.1 x.2.2.2.1) (fun x => by kernel_rfl) fun _ hok _ => T_newKick_ok _ _ _ _ _ _ _ hok
end V
end Go.Proofs.YtkiaifmbbnnliaaGreat
