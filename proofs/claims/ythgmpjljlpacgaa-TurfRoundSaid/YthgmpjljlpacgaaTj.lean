/- Contracts of the reference roquetref01: product, Less, Wide. -/
import Derived.Test.YthgmpjljlpacgaaTi
import Derived.Test.YthgmpjljlpacgaaTA
namespace Go.Proofs.Ythgmpjljlpacgaa
open Go.RowKit Ev
theorem is_product : FnIs Try.prog (73, Try.f73) := ⟨Try.func73, by kernel_rfl, by kernel_rfl⟩
theorem is_Less : FnIs Try.prog (57, Try.f57) := ⟨Try.func57, by kernel_rfl, by kernel_rfl⟩
theorem is_refWide : FnIs Try.prog (26, Try.f26) := ⟨Try.func26, by kernel_rfl, by kernel_rfl⟩
def g_product : PureT
  | [.int .i64 a, .int .i64 b] => some (decide (0 ≤ a ∧ a ≤ 4611686018427387904 ∧ 0 ≤ b ∧ b ≤ 4611686018427387904), .agg [.int .i64 (dTop a b / 2147483648), .int .i64 (dTop a b % 2147483648), .int .i64 (dMid a b % 2147483648), .int .i64 (dLow a b % 2147483648)])
  | _ => none
theorem p_product : PureOk Try.prog 73 g_product := by
  refine pureOk_of_ev (ctx_ok mixed puOk_nil (fns_cons is_product fns_nil)) 3 fun xs x hw h => ?_
  unfold g_product at h
  split at h
  · rename_i a b
    simp only [Option.some.injEq, Prod.mk.injEq] at h
    obtain ⟨hok, rfl⟩ := h
    obtain ⟨h1, h2, h3, h4⟩ := of_decide_eq_true hok
    refine ⟨rfl, ?_⟩
    have e : evFn (ctx Try.prog [] [(73, Try.f73)]) 3 73 [.int .i64 a, .int .i64 b] noHeap 0 outK =
      let x := IntKind.i64.wrap (a.tdiv 2147483648)
      let y := a.tmod 2147483648
      let u := IntKind.i64.wrap (b.tdiv 2147483648)
      let v := b.tmod 2147483648
      let low := IntKind.i64.wrap (y * v)
      let m := IntKind.i64.wrap (x * v)
      let n := IntKind.i64.wrap (y * u)
      let mid := IntKind.i64.wrap (IntKind.i64.wrap (m.tmod 2147483648 + n.tmod 2147483648) + IntKind.i64.wrap (low.tdiv 2147483648))
      let high := IntKind.i64.wrap (IntKind.i64.wrap (IntKind.i64.wrap (m.tdiv 2147483648) + IntKind.i64.wrap (n.tdiv 2147483648)) + IntKind.i64.wrap (mid.tdiv 2147483648))
      let top := IntKind.i64.wrap (IntKind.i64.wrap (x * u) + high)
      .leaf (.agg [.int .i64 (IntKind.i64.wrap (top.tdiv 2147483648)), .int .i64 (top.tmod 2147483648), .int .i64 (mid.tmod 2147483648), .int .i64 (low.tmod 2147483648)]) := by kernel_rfl
    rw [e]
    dsimp only
    obtain ⟨_, ⟨p1, p2, p3, p4, p5, p6, p7, p8⟩, p9, p10, p11, p12⟩ := dig a b h1 h3 h2 h4
    rw [Int.tdiv_eq_ediv_of_nonneg h1, Int.tdiv_eq_ediv_of_nonneg h3, Int.tmod_eq_emod_of_nonneg h1, Int.tmod_eq_emod_of_nonneg h3, wrap_id (n := a / 2147483648) (by omega) (by omega), wrap_id (n := b / 2147483648) (by omega) (by omega),
      wrap_id (n := a / 2147483648 * (b / 2147483648)) (by omega) (by omega), wrap_id (n := a / 2147483648 * (b % 2147483648)) (by omega) (by omega), wrap_id (n := a % 2147483648 * (b / 2147483648)) (by omega) (by omega), wrap_id (n := a % 2147483648 * (b % 2147483648)) (by omega) (by omega)]
    have hT : dTop a b = a / 2147483648 * (b / 2147483648) + ((a / 2147483648 * (b % 2147483648)) / 2147483648 + (a % 2147483648 * (b / 2147483648)) / 2147483648 + dMid a b / 2147483648) := rfl
    have hM : dMid a b = (a / 2147483648 * (b % 2147483648)) % 2147483648 + (a % 2147483648 * (b / 2147483648)) % 2147483648 + (a % 2147483648 * (b % 2147483648)) / 2147483648 := rfl
    have hL : dLow a b = a % 2147483648 * (b % 2147483648) := rfl
    generalize dTop a b = T at *
    generalize dMid a b = M at *
    generalize dLow a b = L at *
    generalize a / 2147483648 * (b / 2147483648) = A at *
    generalize a / 2147483648 * (b % 2147483648) = B at *
    generalize a % 2147483648 * (b / 2147483648) = C at *
    generalize a % 2147483648 * (b % 2147483648) = D at *
    rw [Int.tdiv_eq_ediv_of_nonneg p3, Int.tdiv_eq_ediv_of_nonneg p5, Int.tdiv_eq_ediv_of_nonneg p7, Int.tmod_eq_emod_of_nonneg p3, Int.tmod_eq_emod_of_nonneg p5, Int.tmod_eq_emod_of_nonneg p7,
      wrap_id (n := B / 2147483648) (by omega) (by omega), wrap_id (n := C / 2147483648) (by omega) (by omega), wrap_id (n := D / 2147483648) (by omega) (by omega), wrap_id (n := B % 2147483648 + C % 2147483648) (by omega) (by omega), wrap_id (n := B % 2147483648 + C % 2147483648 + D / 2147483648) (by omega) (by omega), ← hM,
      Int.tdiv_eq_ediv_of_nonneg (show 0 ≤ M by omega), Int.tmod_eq_emod_of_nonneg (show 0 ≤ M by omega), wrap_id (n := M / 2147483648) (by omega) (by omega), wrap_id (n := B / 2147483648 + C / 2147483648) (by omega) (by omega), wrap_id (n := B / 2147483648 + C / 2147483648 + M / 2147483648) (by omega) (by omega), wrap_id (n := A + (B / 2147483648 + C / 2147483648 + M / 2147483648)) (by omega) (by omega), ← hT,
      Int.tdiv_eq_ediv_of_nonneg (show 0 ≤ T by omega), Int.tmod_eq_emod_of_nonneg (show 0 ≤ T by omega), wrap_id (n := T / 2147483648) (by omega) (by omega), hL]
    exact sat_leaf rfl
  · simp at h

/-! Less -/
def g_Less : PureT
  | [.int .i64 a, .int .i64 b, .int .i64 c, .int .i64 d] => some (wdOk a b c d, .int .i64 (a * b - c * d).sign)
  | _ => none
theorem wdOk_bd {a b c d : Int} (h : wdOk a b c d = true) : (0 ≤ a ∧ a ≤ 4611686018427387904) ∧ (0 ≤ b ∧ b ≤ 4611686018427387904) ∧ (0 ≤ c ∧ c ≤ 4611686018427387904) ∧ (0 ≤ d ∧ d ≤ 4611686018427387904) := by
  simp only [wdOk, Bool.and_eq_true, Bool.not_eq_true'] at h
  exact ⟨out_false h.1, out_false h.2.1, out_false h.2.2.1, out_false h.2.2.2⟩
theorem p_Less : PureOk Try.prog 57 g_Less := by
  refine pureOk_of_ev (ctx_ok mixed (puOk_cons is_product.plain p_product puOk_nil) (fns_cons is_Less fns_nil)) 3 fun xs x hw h => ?_
  unfold g_Less at h
  split at h
  · rename_i a b c d
    simp only [Option.some.injEq, Prod.mk.injEq] at h
    obtain ⟨hok, rfl⟩ := h
    obtain ⟨ha, hb, hc, hd⟩ := wdOk_bd hok
    refine ⟨rfl, ?_⟩
    have e : evFn (ctx Try.prog [(73, g_product)] [(57, Try.f57)]) 3 57 [.int .i64 a, .int .i64 b, .int .i64 c, .int .i64 d] noHeap 0 outK =
      bif decide (0 ≤ a ∧ a ≤ 4611686018427387904 ∧ 0 ≤ b ∧ b ≤ 4611686018427387904) then bif decide (0 ≤ c ∧ c ≤ 4611686018427387904 ∧ 0 ≤ d ∧ d ≤ 4611686018427387904) then
      bif decide (dTop a b / 2147483648 < dTop c d / 2147483648) then .leaf (.int .i64 (-1)) else bif decide (dTop a b / 2147483648 > dTop c d / 2147483648) then .leaf (.int .i64 1) else
      bif decide (dTop a b % 2147483648 < dTop c d % 2147483648) then .leaf (.int .i64 (-1)) else bif decide (dTop a b % 2147483648 > dTop c d % 2147483648) then .leaf (.int .i64 1) else
      bif decide (dMid a b % 2147483648 < dMid c d % 2147483648) then .leaf (.int .i64 (-1)) else bif decide (dMid a b % 2147483648 > dMid c d % 2147483648) then .leaf (.int .i64 1) else
      bif decide (dLow a b % 2147483648 < dLow c d % 2147483648) then .leaf (.int .i64 (-1)) else bif decide (dLow a b % 2147483648 > dLow c d % 2147483648) then .leaf (.int .i64 1) else .leaf (.int .i64 0)
      else .fail else .fail := by kernel_rfl
    rw [e]
    have e1 := digits a b ha.1 hb.1 ha.2 hb.2
    have e2 := digits c d hc.1 hd.1 hc.2 hd.2
    have r1 : 0 ≤ dTop a b % 2147483648 ∧ dTop a b % 2147483648 < 2147483648 := by omega
    have r2 : 0 ≤ dMid a b % 2147483648 ∧ dMid a b % 2147483648 < 2147483648 := by omega
    have r3 : 0 ≤ dLow a b % 2147483648 ∧ dLow a b % 2147483648 < 2147483648 := by omega
    have r4 : 0 ≤ dTop c d % 2147483648 ∧ dTop c d % 2147483648 < 2147483648 := by omega
    have r5 : 0 ≤ dMid c d % 2147483648 ∧ dMid c d % 2147483648 < 2147483648 := by omega
    have r6 : 0 ≤ dLow c d % 2147483648 ∧ dLow c d % 2147483648 < 2147483648 := by omega
    generalize dTop a b / 2147483648 = A0 at *
    generalize dTop c d / 2147483648 = C0 at *
    generalize dTop a b % 2147483648 = A1 at *
    generalize dTop c d % 2147483648 = C1 at *
    generalize dMid a b % 2147483648 = A2 at *
    generalize dMid c d % 2147483648 = C2 at *
    generalize dLow a b % 2147483648 = A3 at *
    generalize dLow c d % 2147483648 = C3 at *
    refine sat_cond (fun _ => sat_cond (fun _ => ?_) (fun q => ?_)) (fun q => ?_)
    · rw [e1, e2]
      refine sat_cond (fun k => ?_) (fun k1 => sat_cond (fun k => ?_) (fun k2 => sat_cond (fun k => ?_) (fun k3 => sat_cond (fun k => ?_) (fun k4 => sat_cond (fun k => ?_) (fun k5 => sat_cond (fun k => ?_) (fun k6 => sat_cond (fun k => ?_) (fun k7 => sat_cond (fun k => ?_) (fun k8 => ?_))))))))
      · have := of_decide_eq_true k
        refine sat_leaf ?_; rw [sign_lt (by omega)]
      · have := of_decide_eq_true k
        refine sat_leaf ?_; rw [sign_gt (by omega)]
      · have := of_decide_eq_true k; have := of_decide_eq_false k1; have := of_decide_eq_false k2
        refine sat_leaf ?_; rw [sign_lt (by omega)]
      · have := of_decide_eq_true k; have := of_decide_eq_false k1; have := of_decide_eq_false k2
        refine sat_leaf ?_; rw [sign_gt (by omega)]
      · have := of_decide_eq_true k; have := of_decide_eq_false k1; have := of_decide_eq_false k2; have := of_decide_eq_false k3; have := of_decide_eq_false k4
        refine sat_leaf ?_; rw [sign_lt (by omega)]
      · have := of_decide_eq_true k; have := of_decide_eq_false k1; have := of_decide_eq_false k2; have := of_decide_eq_false k3; have := of_decide_eq_false k4
        refine sat_leaf ?_; rw [sign_gt (by omega)]
      · have := of_decide_eq_true k; have := of_decide_eq_false k1; have := of_decide_eq_false k2; have := of_decide_eq_false k3; have := of_decide_eq_false k4; have := of_decide_eq_false k5; have := of_decide_eq_false k6
        refine sat_leaf ?_; rw [sign_lt (by omega)]
      · have := of_decide_eq_true k; have := of_decide_eq_false k1; have := of_decide_eq_false k2; have := of_decide_eq_false k3; have := of_decide_eq_false k4; have := of_decide_eq_false k5; have := of_decide_eq_false k6
        refine sat_leaf ?_; rw [sign_gt (by omega)]
      · have := of_decide_eq_false k1; have := of_decide_eq_false k2; have := of_decide_eq_false k3; have := of_decide_eq_false k4; have := of_decide_eq_false k5; have := of_decide_eq_false k6; have := of_decide_eq_false k7; have := of_decide_eq_false k8
        refine sat_leaf ?_; rw [sign_eq (by omega)]
    · have := of_decide_eq_false q; omega
    · have := of_decide_eq_false q; omega
  · simp at h

/-! Wide -/
theorem p_refWide : PureOk Try.prog 26 g_Wide := by
  refine pureOk_of_ev (ctx_ok mixed (puOk_cons is_Less.plain p_Less pu_am) (fns_cons is_refWide fns_nil)) 3 fun xs x hw h => ?_
  unfold g_Wide at h
  split at h
  · rename_i a b c d
    simp only [Option.some.injEq, Prod.mk.injEq, true_and] at h
    subst h
    refine ⟨rfl, ?_⟩
    have e : evFn (ctx Try.prog ((57, g_Less) :: pl_am) [(26, Try.f26)]) 3 26 [.int .i64 a, .int .i64 b, .int .i64 c, .int .i64 d] noHeap 0 outK =
      bif !!outB a 0 4611686018427387904 then .leaf (.tup [.int .i64 0, .int .i64 3]) else bif !!outB b 0 4611686018427387904 then .leaf (.tup [.int .i64 0, .int .i64 3]) else
      bif !!outB c 0 4611686018427387904 then .leaf (.tup [.int .i64 0, .int .i64 3]) else bif !!outB d 0 4611686018427387904 then .leaf (.tup [.int .i64 0, .int .i64 3]) else
      bif wdOk a b c d then .leaf (.tup [.int .i64 (a * b - c * d).sign, .int .i64 0]) else .fail := by kernel_rfl
    rw [e]
    simp only [Bool.not_not]
    unfold WdR wdOk
    cases outB a 0 4611686018427387904 with
    | true => exact sat_leaf rfl
    | false =>
      cases outB b 0 4611686018427387904 with
      | true => exact sat_leaf rfl
      | false =>
        cases outB c 0 4611686018427387904 with
        | true => exact sat_leaf rfl
        | false =>
          cases outB d 0 4611686018427387904 with
          | true => exact sat_leaf rfl
          | false => exact sat_leaf rfl
  · simp at h
end Go.Proofs.Ythgmpjljlpacgaa
