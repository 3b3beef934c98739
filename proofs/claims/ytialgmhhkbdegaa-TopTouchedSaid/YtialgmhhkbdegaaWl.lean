/- Kick and Bounce of contact: contracts of a seat without the reference. -/
import Derived.Test.YtialgmhhkbdegaaWf
namespace Go.Proofs.Ytialgmhhkbdegaa
open Go.RowKit Ev
def pl_sqw : List (Nat × PureT) := (35, g_square) :: [(42, g_divide), (25, g_outside)]
theorem pu_sqw : PuOk Try.prog pl_sqw := puOk_cons is_square.plain p_square pu2
theorem p_Squarew : PureOk Try.prog 102 g_Square := by
  refine pureOk_of_ev (ctx_ok mixed pu_sqw (fns_cons is_Square (fns_cons is_fits fns_nil))) 3 fun xs x hw h => ?_
  unfold g_Square at h
  split at h
  · rename_i ax ay bx bY
    simp only [Option.some.injEq, Prod.mk.injEq, true_and] at h
    subst h
    simp only [WFL, WF, and_true] at hw
    obtain ⟨⟨a1, a2⟩, a3, a4⟩ := hw
    refine ⟨rfl, ?_⟩
    have e : evFn (ctx Try.prog pl_sqw [(102, Try.f102), (24, Try.f24)]) 3 102 [.agg [.int .i64 ax, .int .i64 ay], .agg [.int .i64 bx, .int .i64 bY]] noHeap 0 outK =
      bif fitC ax ay then .leaf (.tup [.int .i64 0, .int .i64 2]) else bif fitD ax ay then .leaf (.tup [.int .i64 0, .int .i64 2]) else
      bif fitC bx bY then .leaf (.tup [.int .i64 0, .int .i64 2]) else bif fitD bx bY then .leaf (.tup [.int .i64 0, .int .i64 2]) else
      bif fpt ax ay && fpt bx bY then .leaf (.tup [.int .i64 (sq ax ay bx bY), .int .i64 0]) else .fail := by kernel_rfl
    rw [e]
    refine fit_sat a1 a2 (fun k => ?_) (fun k1 => fit_sat a3 a4 (fun k => ?_) (fun k2 => ?_))
    · refine sat_leaf ?_
      unfold SqR; rw [k]; rfl
    · refine sat_leaf ?_
      unfold SqR; rw [k1, k]; rfl
    · rw [k1, k2]
      refine sat_leaf ?_
      unfold SqR; rw [k1, k2]; rfl
  · simp at h
end Go.Proofs.Ytialgmhhkbdegaa
namespace Go.Proofs.Ytialgmhhkbdegaa
open Go.RowKit
namespace V
theorem q_Squarew : PureOk Try.prog 102 s_Square := bridge p_Squarew _ _ rfl (fun _ => rfl)
theorem q_closew : PureOk Try.prog 96 s_close := q_by (ctx_ok mixed (puOk_cons is_coutside.plain q_coutside (puOk_cons is_Square.plain q_Squarew puOk_nil)) (fns_cons is_close fns_nil)) 2 (fun x => T_close x.1.1 x.1.2.1 x.2.1.1 x.2.1.2.1 x.2.2.1) (fun x => by kernel_rfl) fun _ hok _ => T_close_ok _ _ _ _ _ hok
theorem puCw : PuOk Try.prog plC := puOk_cons is_dot.plain q_dot (puOk_cons is_way.plain q_way (puOk_cons is_close.plain q_closew puB))
theorem X_great_okw : CtxOk X_great := ctx_ok mixed puCw (fns_cons is_great fns_nil)
theorem l_newKickw : LoopOk Try.prog 99 lb_newKick (loopSum Lnk E_nk fin_nk) := by
  refine loopOk_of X_great_okw 3 99 (fun _ => none) (fun _ _ f h => by simp at h) Lnk E_nk (fun _ => Nat.le_refl _) fin_nk (fun g => st_nk g.2.1.1 g.2.1.2.1 g.2.2.1.1 g.2.2.1.2.1 g.2.2.1.2.2.1 g.2.2.1.2.2.2.1 g.2.2.1.2.2.2.2.1) (fun g => by kernel_rfl) ?_
  intro g R hw hf
  have hw' : (WFKs Lnk.ks g.1 ∧ WFB Lnk.bs g.2) := hw
  obtain ⟨_, _, hb, _⟩ := hw'
  have hb' : inK .i64 g.2.2.1.1 ∧ inK .i64 g.2.2.1.2.1 := by
    simp only [WFKs, WFK, WFD] at hb
    exact ⟨hb.1, hb.2.1⟩
  exact ⟨65, rnds_nk (fun _ _ _ _ _ _ _ => rfl) R g.2.1.1 g.2.1.2.1 g.2.2.1.2.2.1 g.2.2.1.2.2.2.1 g.2.2.1.2.2.2.2.1 64 g.2.2.1.1 g.2.2.1.2.1 (inK_abs hb'.1) (inK_abs hb'.2) hb'.1 hb'.2 hf⟩
theorem X_newKick_okw : CtxOk X_newKick := ctxL_ok mixed puCw (fns_cons is_newKick fns_nil) (loops_one (by kernel_rfl) (by kernel_rfl) l_newKickw)
theorem q_newKickw : PureOk Try.prog 99 s_newKick := q_by X_newKick_okw 3
  (fun x => T_newKick x.1.1 x.1.2.1 x.2.1.1 x.2.1.2.1 x.2.2.1.1 x.2.2.1.2.1 x.2.2.2.1) (fun x => by kernel_rfl) fun _ hok _ => T_newKick_ok _ _ _ _ _ _ _ hok
theorem puKw : PuOk Try.prog plK := puOk_cons is_newKick.plain q_newKickw (puOk_cons is_CheckBounce.plain q_CheckBounce (puOk_cons is_CheckMotion.plain q_CheckMotion (puOk_cons is_rcheck.plain q_rcheck puCw)))
theorem q_Kickw : PureOk Try.prog 70 s_Kick := q_by (ctx_ok mixed puKw (fns_cons is_Kick (fns_cons is_meet fns_nil))) 6
  (fun x => T_Kick (bm x.1 x.2.1) (bm x.2.2.1 x.2.2.2.1) x.2.2.2.2.1.1 x.2.2.2.2.1.2.1) (fun x => by kernel_rfl) fun _ _ _ => T_Kick_ok _ _ _ _
/-! Bounce -/
theorem is_Bounce : FnIs Try.prog (39, Try.f39) := ⟨Try.func39, by kernel_rfl, by kernel_rfl⟩
theorem is_Bounce1 : FnIs Try.prog (72, Try.f72) := ⟨Try.func72, by kernel_rfl, by kernel_rfl⟩
def plN : List (Nat × PureT) := (90, ptrAt 0) :: (91, ptrAt 1) :: (70, s_Kick) :: plK
theorem puNw : PuOk Try.prog plN := puOk_cons is_each1.plain q_each1 (puOk_cons is_each2.plain q_each2 (puOk_cons is_Kick.plain q_Kickw puKw))
abbrev RBnc := TCTs [cMot, cMot, cI]
abbrev etaB (y : RBnc) : RBnc := (etaS y.1, etaS y.2.1, y.2.2.1, ())
def Bm.moved (a : Bm) (x y : Int) : TCT cMot := ((a.px, a.py, ()), (x, y, ()), (a.rx, a.ry, ()), ())
def BncOf (a b : Bm) (k : RKick) : RBnc :=
  bif k.2.1 != 0 then (noMot, noMot, k.2.1, ()) else
  bif !strongB (W64 (a.mx - k.1.1)) (W64 (a.my - k.1.2.1)) then (noMot, noMot, 4, ()) else
  bif !strongB (W64 (b.mx + k.1.1)) (W64 (b.my + k.1.2.1)) then (noMot, noMot, 4, ()) else
  (a.moved (W64 (a.mx - k.1.1)) (W64 (a.my - k.1.2.1)), b.moved (W64 (b.mx + k.1.1)) (W64 (b.my + k.1.2.1)), 0, ())
def BounceR (a b : Bm) (re dr : Int) : RBnc := BncOf a b (KickR a b re dr)
def T_Bnc (a b : Bm) (k : RKick) : Tree RBnc :=
  bif k.2.1 != 0 then .leaf (noMot, noMot, k.2.1, ()) else
  bif !strongB (W64 (a.mx - k.1.1)) (W64 (a.my - k.1.2.1)) then .leaf (noMot, noMot, 4, ()) else
  bif !strongB (W64 (b.mx + k.1.1)) (W64 (b.my + k.1.2.1)) then .leaf (noMot, noMot, 4, ()) else
  .leaf (a.moved (W64 (a.mx - k.1.1)) (W64 (a.my - k.1.2.1)), b.moved (W64 (b.mx + k.1.1)) (W64 (b.my + k.1.2.1)), 0, ())
theorem T_Bnc_ok (a b : Bm) (k : RKick) : (T_Bnc a b k).sat (fun y => y = BncOf a b k) := by
  unfold T_Bnc BncOf
  cases k.2.1 != 0 <;> cases strongB (W64 (a.mx - k.1.1)) (W64 (a.my - k.1.2.1)) <;> cases strongB (W64 (b.mx + k.1.1)) (W64 (b.my + k.1.2.1)) <;> exact rfl
abbrev s_Bounce : PureT := spec [cBall, cMot, cBall, cMot, cBnc] [cMot, cMot, cI] (fun _ => true) (fun x => etaB (BounceR (bm x.1 x.2.1) (bm x.2.2.1 x.2.2.2.1) x.2.2.2.2.1.1 x.2.2.2.2.1.2.1))
theorem q_Bouncew : PureOk Try.prog 39 s_Bounce := q_by (ctx_ok mixed puNw (fns_cons is_Bounce (fns_cons is_Bounce1 (fns_cons is_each fns_nil)))) 6
  (fun x => T_Bnc (bm x.1 x.2.1) (bm x.2.2.1 x.2.2.2.1) (KickR (bm x.1 x.2.1) (bm x.2.2.1 x.2.2.2.1) x.2.2.2.2.1.1 x.2.2.2.2.1.2.1)) (fun x => by kernel_rfl) fun _ _ _ => T_Bnc_ok _ _ _
def plO : List (Nat × PureT) := (39, s_Bounce) :: plK
theorem puOw : PuOk Try.prog plO := puOk_cons is_Bounce.plain q_Bouncew puKw
end V
end Go.Proofs.Ytialgmhhkbdegaa
