/- Contracts of the reference roquetref01: Side, Lies, Cuts, Touch; and the law TurfSegments: both sides have one contract. -/
import Derived.Test.YthgmpjljlpacgaaTm
import Derived.Test.YthgmpjljlpacgaaEm
namespace Go.Proofs.Ythgmpjljlpacgaa
open Go.RowKit Ev
theorem p_rLies : PureOk Try.prog 41 g_Lies := by
  refine pureOk_of_ev (ctx_ok mixed pu_rseg (fns_cons is_rLies fns_nil)) 3 fun xs x hw h => ?_
  unfold g_Lies at h
  split at h
  · rename_i ax ay bx bY px py r
    simp only [Option.some.injEq, Prod.mk.injEq, true_and] at h
    subst h
    refine ⟨rfl, ?_⟩
    have e : evFn (ctx Try.prog pl_rseg [(41, Try.f41)]) 3 41 [.agg [.int .i64 ax, .int .i64 ay], .agg [.int .i64 bx, .int .i64 bY], .agg [.int .i64 px, .int .i64 py], .int .i64 r] noHeap 0 outK =
      bif !fpt ax ay then .leaf (.tup [.int .i64 0, .int .i64 2]) else bif !fpt bx bY then .leaf (.tup [.int .i64 0, .int .i64 2]) else bif !fpt px py then .leaf (.tup [.int .i64 0, .int .i64 2]) else bif !!outB r 0 8388608 then .leaf (.tup [.int .i64 0, .int .i64 3]) else
      bif lsOk ax ay bx bY px py r then .leaf (.tup [.int .i64 (LsV ax ay bx bY px py r), .int .i64 0]) else .fail := by kernel_rfl
    rw [e]
    unfold LsR lsOk
    cases fpt ax ay <;> cases fpt bx bY <;> cases fpt px py <;> cases outB r 0 8388608 <;> exact sat_leaf rfl
  · simp at h
theorem p_rSide : PureOk Try.prog 40 g_Side := by
  refine pureOk_of_ev (ctx_ok mixed pu_rseg (fns_cons is_rSide fns_nil)) 3 fun xs x hw h => ?_
  unfold g_Side at h
  split at h
  · rename_i ax ay bx bY px py
    simp only [Option.some.injEq, Prod.mk.injEq, true_and] at h
    subst h
    refine ⟨rfl, ?_⟩
    have e : evFn (ctx Try.prog pl_rseg [(40, Try.f40)]) 3 40 [.agg [.int .i64 ax, .int .i64 ay], .agg [.int .i64 bx, .int .i64 bY], .agg [.int .i64 px, .int .i64 py]] noHeap 0 outK =
      bif !fpt ax ay then .leaf (.tup [.int .i64 0, .int .i64 2]) else bif !fpt bx bY then .leaf (.tup [.int .i64 0, .int .i64 2]) else bif !fpt px py then .leaf (.tup [.int .i64 0, .int .i64 2]) else
      bif fpt ax ay && (fpt bx bY && fpt px py) then .leaf (.tup [.int .i64 (lft ax ay bx bY px py).sign, .int .i64 0]) else .fail := by kernel_rfl
    rw [e]
    unfold SdR
    cases fpt ax ay <;> cases fpt bx bY <;> cases fpt px py <;> exact sat_leaf rfl
  · simp at h
theorem p_rCuts : PureOk Try.prog 42 g_Cuts := by
  refine pureOk_of_ev (ctx_ok mixed pu_rseg (fns_cons is_rCuts fns_nil)) 3 fun xs x hw h => ?_
  unfold g_Cuts at h
  split at h
  · rename_i ax ay bx bY px py r
    simp only [Option.some.injEq, Prod.mk.injEq, true_and] at h
    subst h
    refine ⟨rfl, ?_⟩
    have e : evFn (ctx Try.prog pl_rseg [(42, Try.f42)]) 3 42 [.agg [.int .i64 ax, .int .i64 ay], .agg [.int .i64 bx, .int .i64 bY], .agg [.int .i64 px, .int .i64 py, .int .i64 r]] noHeap 0 outK =
      bif !fpt ax ay then .leaf (.tup [.bool false, .int .i64 2]) else bif !fpt bx bY then .leaf (.tup [.bool false, .int .i64 2]) else
      bif cdV px py r != 0 then .leaf (.tup [.bool false, .int .i64 2]) else
      bif lsOk ax ay bx bY px py r then .leaf (.tup [.bool (decide (LsV ax ay bx bY px py r < 0)), .int .i64 0]) else .fail := by kernel_rfl
    rw [e]
    unfold CtR cdV
    cases k1 : fpt ax ay with
    | false => exact sat_leaf rfl
    | true =>
      cases k2 : fpt bx bY with
      | false => exact sat_leaf rfl
      | true =>
        cases k3 : cdOk px py r with
        | false => exact sat_leaf rfl
        | true => rw [cd_ls k1 k2 k3]; exact sat_leaf rfl
  · simp at h
theorem p_rTouch : PureOk Try.prog 44 g_Touch := by
  refine pureOk_of_ev (ctx_ok mixed pu_rseg (fns_cons is_rTouch fns_nil)) 3 fun xs x hw h => ?_
  unfold g_Touch at h
  split at h
  · rename_i ax ay r px py q
    simp only [Option.some.injEq, Prod.mk.injEq, true_and] at h
    subst h
    refine ⟨rfl, ?_⟩
    have e : evFn (ctx Try.prog pl_rseg [(44, Try.f44)]) 3 44 [.agg [.int .i64 ax, .int .i64 ay, .int .i64 r], .agg [.int .i64 px, .int .i64 py, .int .i64 q]] noHeap 0 outK =
      bif cdV ax ay r != 0 then .leaf (.tup [.int .i64 0, .int .i64 2]) else bif cdV px py q != 0 then .leaf (.tup [.int .i64 0, .int .i64 2]) else
      bif fpt ax ay && fpt px py then .leaf (.tup [.int .i64 (IntKind.i64.wrap (sq ax ay px py - IntKind.i64.wrap (IntKind.i64.wrap (r + q) * IntKind.i64.wrap (r + q)))).sign, .int .i64 0]) else .fail := by kernel_rfl
    rw [e]
    unfold cdV TcR
    cases k1 : cdOk ax ay r with
    | false => exact sat_leaf rfl
    | true =>
      cases k2 : cdOk px py q with
      | false => exact sat_leaf rfl
      | true =>
        unfold cdOk at k1 k2
        rw [Bool.and_eq_true, Bool.not_eq_true'] at k1 k2
        have c1 := out_false k1.2
        have c2 := out_false k2.2
        have b := mul_bd (a := r + q) (b := r + q) (A := 131072) (B := 131072) (by omega) (by omega) (by omega) (by omega)
        have sb := sq_bd k1.1 k2.1
        rw [k1.1, k2.1, wrap_id (n := r + q) (by omega) (by omega), wrap_id (n := (r + q) * (r + q)) (by omega) (by omega), wrap_id (n := sq ax ay px py - (r + q) * (r + q)) (by omega) (by omega)]
        exact sat_leaf rfl
  · simp at h
theorem is_TurfSegments : FnIs Try.prog (11, Try.f11) := ⟨Try.func11, by kernel_rfl, by kernel_rfl⟩
def pl_segments : List (Nat × PureT) := [(19, g_Square), (34, g_Square), (35, g_Check), (36, g_Check), (37, g_CheckDisc), (38, g_CheckDisc), (39, g_Side), (40, g_Side),
  (27, g_Lies), (41, g_Lies), (29, g_Cuts), (42, g_Cuts), (43, g_Touch), (44, g_Touch), (14, g_fine)]
theorem pu_segments : PuOk Try.prog pl_segments :=
  puOk_cons is_Square.plain p_Square (puOk_cons is_rSquare.plain p_rSquare (puOk_cons is_Check.plain p_Check (puOk_cons is_rCheck.plain p_rCheck (puOk_cons is_CheckDisc.plain p_CheckDisc (puOk_cons is_rCheckDisc.plain p_rCheckDisc (puOk_cons is_Side.plain p_Side (puOk_cons is_rSide.plain p_rSide
  (puOk_cons is_Lies.plain p_Lies (puOk_cons is_rLies.plain p_rLies (puOk_cons is_Cuts.plain p_Cuts (puOk_cons is_rCuts.plain p_rCuts (puOk_cons is_Touch.plain p_Touch (puOk_cons is_rTouch.plain p_rTouch (puOk_cons is_fine.plain p_fine puOk_nil))))))))))))))
theorem segments_walk (ax ay bx bY px py r cx cy cr dx dy dr : Int) (h0 : inK .i64 ax) (h1 : inK .i64 ay) (h2 : inK .i64 bx) (h3 : inK .i64 bY) (h4 : inK .i64 px) (h5 : inK .i64 py) (h6 : inK .i64 r) (h7 : inK .i64 cx) (h8 : inK .i64 cy) (h9 : inK .i64 cr) (h10 : inK .i64 dx) (h11 : inK .i64 dy) (h12 : inK .i64 dr) (w : World) :
    Calls Try.prog 11 #[.agg #[.int .i64 ax, .int .i64 ay], .agg #[.int .i64 bx, .int .i64 bY], .agg #[.int .i64 px, .int .i64 py], .int .i64 r, .agg #[.int .i64 cx, .int .i64 cy, .int .i64 cr], .agg #[.int .i64 dx, .int .i64 dy, .int .i64 dr]] w fun e w' => e = .returned (.bool true) ∧ Below w.heap.size w w' := by
  have e : evFn (ctx Try.prog pl_segments [(11, Try.f11)]) 3 11 [.agg [.int .i64 ax, .int .i64 ay], .agg [.int .i64 bx, .int .i64 bY], .agg [.int .i64 px, .int .i64 py], .int .i64 r, .agg [.int .i64 cx, .int .i64 cy, .int .i64 cr], .agg [.int .i64 dx, .int .i64 dy, .int .i64 dr]] noHeap 0 lawK =
      bif ckV ax ay != ckV ax ay then .fail else bif cdV cx cy cr != cdV cx cy cr then .fail else bif (SqR ax ay bx bY).1 != (SqR ax ay bx bY).1 then .fail else bif (SqR ax ay bx bY).2 != (SqR ax ay bx bY).2 then .fail else bif (SdR ax ay bx bY px py).1 != (SdR ax ay bx bY px py).1 then .fail else bif (SdR ax ay bx bY px py).2 != (SdR ax ay bx bY px py).2 then .fail else bif (LsR ax ay bx bY px py r).1 != (LsR ax ay bx bY px py r).1 then .fail else bif (LsR ax ay bx bY px py r).2 != (LsR ax ay bx bY px py r).2 then .fail else bif (CtR ax ay bx bY cx cy cr).1 == (CtR ax ay bx bY cx cy cr).1 then bif (CtR ax ay bx bY cx cy cr).2 == (CtR ax ay bx bY cx cy cr).2 then bif (TcR cx cy cr dx dy dr).1 == (TcR cx cy cr dx dy dr).1 then bif (TcR cx cy cr dx dy dr).2 == (TcR cx cy cr dx dy dr).2 then .leaf () else .fail else .fail else .fail else .fail := by kernel_rfl
  refine law_calls (xs := [.agg [.int .i64 ax, .int .i64 ay], .agg [.int .i64 bx, .int .i64 bY], .agg [.int .i64 px, .int .i64 py], .int .i64 r, .agg [.int .i64 cx, .int .i64 cy, .int .i64 cr], .agg [.int .i64 dx, .int .i64 dy, .int .i64 dr]]) (us := [.agg #[.int .i64 ax, .int .i64 ay], .agg #[.int .i64 bx, .int .i64 bY], .agg #[.int .i64 px, .int .i64 py], .int .i64 r, .agg #[.int .i64 cx, .int .i64 cy, .int .i64 cr], .agg #[.int .i64 dx, .int .i64 dy, .int .i64 dr]]) (ctx_ok mixed pu_segments (fns_cons is_TurfSegments fns_nil)) 3 ?_ ?_
  · simp only [repL_consI, repL_nilI, rep_aggI, rep_intI, and_true]
    exact ⟨⟨h0, h1⟩, ⟨h2, h3⟩, ⟨h4, h5⟩, h6, ⟨h7, h8, h9⟩, h10, h11, h12⟩
  · rw [e]
    simp only [bne_self_eq_false, beq_self_eq_true, cond_true, cond_false]
    trivial
end Go.Proofs.Ythgmpjljlpacgaa
