/- Contracts of the reference roquetref01: turn, sign, how, Square, Side, Lies, Check, CheckDisc, Cuts, Touch: what turf's own compute. -/
import Derived.Test.YthgmpjljlpacgaaTl
import Derived.Test.YthgmpjljlpacgaaTj
namespace Go.Proofs.Ythgmpjljlpacgaa
open Go.RowKit Ev
theorem is_turn : FnIs Try.prog (67, Try.f67) := ⟨Try.func67, by kernel_rfl, by kernel_rfl⟩
theorem is_sign : FnIs Try.prog (66, Try.f66) := ⟨Try.func66, by kernel_rfl, by kernel_rfl⟩
theorem is_how : FnIs Try.prog (68, Try.f68) := ⟨Try.func68, by kernel_rfl, by kernel_rfl⟩
theorem is_rSquare : FnIs Try.prog (34, Try.f34) := ⟨Try.func34, by kernel_rfl, by kernel_rfl⟩
theorem is_rSide : FnIs Try.prog (40, Try.f40) := ⟨Try.func40, by kernel_rfl, by kernel_rfl⟩
theorem is_rLies : FnIs Try.prog (41, Try.f41) := ⟨Try.func41, by kernel_rfl, by kernel_rfl⟩
theorem is_rCheck : FnIs Try.prog (36, Try.f36) := ⟨Try.func36, by kernel_rfl, by kernel_rfl⟩
theorem is_rCheckDisc : FnIs Try.prog (38, Try.f38) := ⟨Try.func38, by kernel_rfl, by kernel_rfl⟩
theorem is_rCuts : FnIs Try.prog (42, Try.f42) := ⟨Try.func42, by kernel_rfl, by kernel_rfl⟩
theorem is_rTouch : FnIs Try.prog (44, Try.f44) := ⟨Try.func44, by kernel_rfl, by kernel_rfl⟩
def g_sign : PureT
  | [.int .i64 n] => some (true, .int .i64 n.sign)
  | _ => none
theorem p_sign : PureOk Try.prog 66 g_sign := by
  refine pureOk_of_ev (ctx_ok mixed puOk_nil (fns_cons is_sign fns_nil)) 2 fun xs x hw h => ?_
  unfold g_sign at h
  split at h
  · rename_i n
    simp only [Option.some.injEq, Prod.mk.injEq, true_and] at h
    subst h
    refine ⟨rfl, ?_⟩
    have e : evFn (ctx Try.prog [] [(66, Try.f66)]) 2 66 [.int .i64 n] noHeap 0 outK = bif decide (n > 0) then .leaf (.int .i64 1) else bif decide (n < 0) then .leaf (.int .i64 (-1)) else .leaf (.int .i64 0) := by kernel_rfl
    rw [e]
    refine sat_cond (fun k => ?_) (fun k => sat_cond (fun k2 => ?_) (fun k2 => ?_))
    · refine sat_leaf ?_; rw [Int.sign_eq_one_of_pos (of_decide_eq_true k)]
    · refine sat_leaf ?_; rw [Int.sign_eq_neg_one_of_neg (of_decide_eq_true k2)]
    · have := of_decide_eq_false k; have := of_decide_eq_false k2
      refine sat_leaf ?_; rw [show n = 0 by omega]; rfl
  · simp at h
theorem p_turn : PureOk Try.prog 67 g_left := by
  refine pureOk_of_ev (ctx_ok mixed puOk_nil (fns_cons is_turn fns_nil)) 2 fun xs x hw h => ?_
  unfold g_left at h
  split at h
  · rename_i ax ay bx bY px py
    simp only [Option.some.injEq, Prod.mk.injEq] at h
    obtain ⟨hok, rfl⟩ := h
    simp only [Bool.and_eq_true] at hok
    have c1 := fpt_bd hok.1
    have c2 := fpt_bd hok.2.1
    have c3 := fpt_bd hok.2.2
    refine ⟨rfl, ?_⟩
    have e : evFn (ctx Try.prog [] [(67, Try.f67)]) 2 67 [.agg [.int .i64 ax, .int .i64 ay], .agg [.int .i64 bx, .int .i64 bY], .agg [.int .i64 px, .int .i64 py]] noHeap 0 outK =
      .leaf (.int .i64 (IntKind.i64.wrap (IntKind.i64.wrap (IntKind.i64.wrap (bx - ax) * IntKind.i64.wrap (py - ay)) - IntKind.i64.wrap (IntKind.i64.wrap (bY - ay) * IntKind.i64.wrap (px - ax))))) := by kernel_rfl
    have b := two_bd (x := bx - ax) (y := py - ay) (u := bY - ay) (v := px - ax) (by omega) (by omega) (by omega) (by omega)
    rw [e, wrap_id (n := bx - ax) (by omega) (by omega), wrap_id (n := py - ay) (by omega) (by omega), wrap_id (n := px - ax) (by omega) (by omega), wrap_id (n := bY - ay) (by omega) (by omega), wrap_id (n := (bx - ax) * (py - ay)) (by omega) (by omega), wrap_id (n := (bY - ay) * (px - ax)) (by omega) (by omega), wrap_id (n := (bx - ax) * (py - ay) - (bY - ay) * (px - ax)) (by omega) (by omega), Int.mul_comm (bY - ay) (px - ax)]
    exact sat_leaf rfl
  · simp at h
def pl_how : List (Nat × PureT) := [(67, g_left), (66, g_sign), (57, g_Less), (63, g_Far), (50, g_Valid), (51, g_Among)]
theorem pu_how : PuOk Try.prog pl_how := puOk_cons is_turn.plain p_turn (puOk_cons is_sign.plain p_sign (puOk_cons is_Less.plain p_Less (puOk_cons is_Far.plain p_Far (puOk_cons is_Valid.plain p_Valid pu_am))))
theorem p_how : PureOk Try.prog 68 g_lies := by
  refine pureOk_of_ev (ctx_ok mixed pu_how (fns_cons is_how fns_nil)) 3 fun xs x hw h => ?_
  unfold g_lies at h
  split at h
  · rename_i ax ay bx bY px py r
    simp only [Option.some.injEq, Prod.mk.injEq] at h
    obtain ⟨hok, rfl⟩ := h
    simp only [lsOk, Bool.and_eq_true, Bool.not_eq_true'] at hok
    obtain ⟨k1, k2, k3, k4⟩ := hok
    have c1 := fpt_bd k1
    have c2 := fpt_bd k2
    have c3 := fpt_bd k3
    have c4 := out_false k4
    refine ⟨rfl, ?_⟩
    have e : evFn (ctx Try.prog pl_how [(68, Try.f68)]) 3 68 [.agg [.int .i64 ax, .int .i64 ay], .agg [.int .i64 bx, .int .i64 bY], .agg [.int .i64 px, .int .i64 py], .int .i64 r] noHeap 0 outK =
      let al := IntKind.i64.wrap (IntKind.i64.wrap (IntKind.i64.wrap (px - ax) * IntKind.i64.wrap (bx - ax)) + IntKind.i64.wrap (IntKind.i64.wrap (py - ay) * IntKind.i64.wrap (bY - ay)))
      let m := max (lft ax ay bx bY px py) (IntKind.i64.wrap (0 - lft ax ay bx bY px py))
      let rr := IntKind.i64.wrap (r * r)
      bif decide (al ≤ 0) then bif fpt ax ay && fpt px py then .leaf (.int .i64 (IntKind.i64.wrap (sq ax ay px py - rr)).sign) else .fail
      else bif fpt ax ay && fpt bx bY then bif decide (al ≥ sq ax ay bx bY) then bif fpt bx bY && fpt px py then .leaf (.int .i64 (IntKind.i64.wrap (sq bx bY px py - rr)).sign) else .fail
      else bif fpt ax ay && (fpt bx bY && fpt px py) then bif fpt ax ay && fpt bx bY then bif wdOk m m rr (sq ax ay bx bY) then .leaf (.int .i64 (m * m - rr * sq ax ay bx bY).sign) else .fail else .fail else .fail
      else .fail := by kernel_rfl
    rw [e]
    dsimp only
    have b := two_bd (x := px - ax) (y := bx - ax) (u := py - ay) (v := bY - ay) (by omega) (by omega) (by omega) (by omega)
    have bl := two_bd (x := bx - ax) (y := py - ay) (u := px - ax) (v := bY - ay) (by omega) (by omega) (by omega) (by omega)
    have hl : lft ax ay bx bY px py = (bx - ax) * (py - ay) - (px - ax) * (bY - ay) := rfl
    have ha : alg ax ay bx bY px py = (px - ax) * (bx - ax) + (py - ay) * (bY - ay) := by unfold alg; grind
    have br := mul_bd (a := r) (b := r) (A := 8388608) (B := 8388608) (by omega) (by omega) (by omega) (by omega)
    have rn := self_nn r
    have sb := sq_bd k1 k2
    have sb2 := sq_bd k1 k3
    have sb3 := sq_bd k2 k3
    rw [wrap_id (n := bx - ax) (by omega) (by omega), wrap_id (n := px - ax) (by omega) (by omega), wrap_id (n := bY - ay) (by omega) (by omega), wrap_id (n := py - ay) (by omega) (by omega), wrap_id (n := (px - ax) * (bx - ax)) (by omega) (by omega), wrap_id (n := (py - ay) * (bY - ay)) (by omega) (by omega),
      wrap_id (n := (px - ax) * (bx - ax) + (py - ay) * (bY - ay)) (by omega) (by omega), ← ha, wrap_id (n := r * r) (by omega) (by omega), wrap_id (n := 0 - lft ax ay bx bY px py) (by omega) (by omega), Int.zero_sub, mul_abs, wrap_id (n := sq ax ay px py - r * r) (by omega) (by omega), wrap_id (n := sq bx bY px py - r * r) (by omega) (by omega), k1, k2, k3]
    have hwd : wdOk (max (lft ax ay bx bY px py) (-lft ax ay bx bY px py)) (max (lft ax ay bx bY px py) (-lft ax ay bx bY px py)) (r * r) (sq ax ay bx bY) = true := by
      unfold wdOk outB
      simp only [Bool.and_eq_true, Bool.not_eq_true', Bool.or_eq_false_iff, decide_eq_false_iff_not]
      omega
    rw [hwd]
    unfold LsV
    refine sat_cond (fun q => ?_) (fun q => sat_cond (fun _ => sat_cond (fun q2 => ?_) (fun q2 => ?_)) (fun q2 => by simp at q2))
    · rw [q]; exact sat_leaf rfl
    · rw [q, decide_eq_true (show sq ax ay bx bY ≤ alg ax ay bx bY px py from of_decide_eq_true q2)]; exact sat_leaf rfl
    · rw [q, decide_eq_false (show ¬ sq ax ay bx bY ≤ alg ax ay bx bY px py from of_decide_eq_false q2)]; exact sat_leaf rfl
  · simp at h
theorem p_rSquare : PureOk Try.prog 34 g_Square := by
  refine pureOk_of_ev (ctx_ok mixed pu_how (fns_cons is_rSquare fns_nil)) 3 fun xs x hw h => ?_
  unfold g_Square at h
  split at h
  · rename_i ax ay bx bY
    simp only [Option.some.injEq, Prod.mk.injEq, true_and] at h
    subst h
    refine ⟨rfl, ?_⟩
    have e : evFn (ctx Try.prog pl_how [(34, Try.f34)]) 3 34 [.agg [.int .i64 ax, .int .i64 ay], .agg [.int .i64 bx, .int .i64 bY]] noHeap 0 outK =
      bif !fpt ax ay then .leaf (.tup [.int .i64 0, .int .i64 2]) else bif !fpt bx bY then .leaf (.tup [.int .i64 0, .int .i64 2]) else bif fpt ax ay && fpt bx bY then .leaf (.tup [.int .i64 (sq ax ay bx bY), .int .i64 0]) else .fail := by kernel_rfl
    rw [e]
    unfold SqR
    cases fpt ax ay <;> cases fpt bx bY <;> exact sat_leaf rfl
  · simp at h
theorem p_rCheck : PureOk Try.prog 36 g_Check := by
  refine pureOk_of_ev (ctx_ok mixed pu_how (fns_cons is_rCheck fns_nil)) 3 fun xs x hw h => ?_
  unfold g_Check at h
  split at h
  · rename_i ax ay
    simp only [Option.some.injEq, Prod.mk.injEq, true_and] at h
    subst h
    refine ⟨rfl, ?_⟩
    have e : evFn (ctx Try.prog pl_how [(36, Try.f36)]) 3 36 [.agg [.int .i64 ax, .int .i64 ay]] noHeap 0 outK = bif !fpt ax ay then .leaf (.int .i64 2) else .leaf (.int .i64 0) := by kernel_rfl
    rw [e]
    unfold ckV
    cases fpt ax ay <;> exact sat_leaf rfl
  · simp at h
theorem p_rCheckDisc : PureOk Try.prog 38 g_CheckDisc := by
  refine pureOk_of_ev (ctx_ok mixed pu_how (fns_cons is_rCheckDisc fns_nil)) 3 fun xs x hw h => ?_
  unfold g_CheckDisc at h
  split at h
  · rename_i px py r
    simp only [Option.some.injEq, Prod.mk.injEq, true_and] at h
    subst h
    refine ⟨rfl, ?_⟩
    have e : evFn (ctx Try.prog pl_how [(38, Try.f38)]) 3 38 [.agg [.int .i64 px, .int .i64 py, .int .i64 r]] noHeap 0 outK = bif !fpt px py then .leaf (.int .i64 2) else bif !!outB r 1 65536 then .leaf (.int .i64 2) else .leaf (.int .i64 0) := by kernel_rfl
    rw [e]
    unfold cdV cdOk
    cases fpt px py <;> cases outB r 1 65536 <;> exact sat_leaf rfl
  · simp at h
def pl_rseg : List (Nat × PureT) := (38, g_CheckDisc) :: (68, g_lies) :: pl_how
theorem pu_rseg : PuOk Try.prog pl_rseg := puOk_cons is_rCheckDisc.plain p_rCheckDisc (puOk_cons is_how.plain p_how pu_how)
end Go.Proofs.Ythgmpjljlpacgaa
