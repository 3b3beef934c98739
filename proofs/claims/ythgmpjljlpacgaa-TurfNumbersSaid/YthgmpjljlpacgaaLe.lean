/- Contracts of roquetref01.Divide and Root, and the law TurfNumbers: for all arguments the law returns true: both sides have one contract. -/
import Derived.Test.YthgmpjljlpacgaaTj
import Derived.Test.YthgmpjljlpacgaaTf
import Derived.Test.YthgmpjljlpacgaaEm
namespace Go.Proofs.Ythgmpjljlpacgaa
open Go.RowKit Ev
theorem is_refDivide : FnIs Try.prog (22, Try.f22) := ⟨Try.func22, by kernel_rfl, by kernel_rfl⟩
theorem is_refRoot : FnIs Try.prog (24, Try.f24) := ⟨Try.func24, by kernel_rfl, by kernel_rfl⟩
theorem is_TurfNumbers : FnIs Try.prog (7, Try.f7) := ⟨Try.func7, by kernel_rfl, by kernel_rfl⟩
theorem p_refDivide : PureOk Try.prog 22 g_Divide := by
  refine pureOk_of_ev (ctx_ok mixed (puOk_cons is_Parted.plain p_Parted pu_am) (fns_cons is_refDivide fns_nil)) 3 fun xs x hw h => ?_
  unfold g_Divide at h
  split at h
  · rename_i n d
    simp only [Option.some.injEq, Prod.mk.injEq, true_and] at h
    subst h
    refine ⟨rfl, ?_⟩
    have e : evFn (ctx Try.prog ((53, g_divide) :: pl_am) [(22, Try.f22)]) 3 22 [.int .i64 n, .int .i64 d] noHeap 0 outK =
        bif !!outB n (-1152921504606846976) 1152921504606846976 then .leaf (.tup [.agg [.int .i64 0, .int .i64 0], .int .i64 3])
        else bif !!outB d 1 1152921504606846976 then .leaf (.tup [.agg [.int .i64 0, .int .i64 0], .int .i64 3])
        else bif dvOk n d then .leaf (.tup [.agg [.int .i64 (DW n d), .int .i64 (DR n d)], .int .i64 0]) else .fail := by kernel_rfl
    rw [e]
    simp only [Bool.not_not]
    refine sat_cond (fun h1 => ?_) (fun h1 => sat_cond (fun h2 => ?_) (fun h2 => sat_cond (fun h3 => ?_) (fun h3 => ?_)))
    · obtain ⟨e1, e2, e3⟩ := dv_err1 n d h1
      show AV.tup _ = AV.tup _
      rw [e1, e2, e3]
    · obtain ⟨e1, e2, e3⟩ := dv_err2 n d h2
      show AV.tup _ = AV.tup _
      rw [e1, e2, e3]
    · have ⟨k1, k2⟩ := out_no h1
      have ⟨k3, k4⟩ := out_no h2
      obtain ⟨e1, e2, e3⟩ := dv_ok n d k1 k2 k3 k4
      show AV.tup _ = AV.tup _
      rw [e1, e2, e3]
    · rw [dvOk_out, h1, h2] at h3; simp at h3
  · simp at h
theorem p_refRoot : PureOk Try.prog 24 g_Root := by
  refine pureOk_of_ev (ctx_ok mixed (puOk_cons is_Sqrt.plain p_Sqrt pu_am) (fns_cons is_refRoot fns_nil)) 3 fun xs x hw h => ?_
  unfold g_Root at h
  split at h
  · rename_i n
    simp only [Option.some.injEq, Prod.mk.injEq, true_and] at h
    subst h
    refine ⟨rfl, ?_⟩
    have e : evFn (ctx Try.prog ((54, g_root) :: pl_am) [(24, Try.f24)]) 3 24 [.int .i64 n] noHeap 0 outK =
        bif !!outB n 0 4611686018427387904 then .leaf (.tup [.int .i64 0, .int .i64 3]) else bif decide (0 ≤ n ∧ n ≤ 4611686018427387904) then .leaf (.tup [.int .i64 (rt n), .int .i64 0]) else .fail := by kernel_rfl
    rw [e]
    simp only [Bool.not_not]
    refine sat_cond (fun h1 => ?_) (fun h1 => sat_cond (fun h2 => ?_) (fun h2 => ?_))
    · have : rtOk n = false := by
        have := out_true h1
        unfold rtOk
        exact decide_eq_false this
      refine sat_leaf ?_
      unfold RtV RtE; rw [this]; rfl
    · have : rtOk n = true := h2
      refine sat_leaf ?_
      unfold RtV RtE; rw [this]; rfl
    · have := out_no h1
      have := of_decide_eq_false h2; omega
  · simp at h
def pl_numbers : List (Nat × PureT) := [(13, g_Divide), (22, g_Divide), (23, g_Root), (24, g_Root), (25, g_Wide), (26, g_Wide), (14, g_fine)]
theorem pu_numbers : PuOk Try.prog pl_numbers :=
  puOk_cons is_Divide.plain p_Divide (puOk_cons is_refDivide.plain p_refDivide (puOk_cons is_Root.plain p_Root (puOk_cons is_refRoot.plain p_refRoot (puOk_cons is_Wide.plain p_Wide (puOk_cons is_refWide.plain p_refWide (puOk_cons is_fine.plain p_fine puOk_nil))))))
theorem numbers_walk (a b c d : Int) (h1 : inK .i64 a) (h2 : inK .i64 b) (h3 : inK .i64 c) (h4 : inK .i64 d) (w : World) :
    Calls Try.prog 7 #[.int .i64 a, .int .i64 b, .int .i64 c, .int .i64 d] w fun e w' => e = .returned (.bool true) ∧ Below w.heap.size w w' := by
  have e : evFn (ctx Try.prog pl_numbers [(7, Try.f7)]) 3 7 [.int .i64 a, .int .i64 b, .int .i64 c, .int .i64 d] noHeap 0 lawK =
      bif DvW a b == DvW a b && (DvR a b == DvR a b && true) then bif DvE a b == DvE a b then bif RtV a == RtV a then bif RtE a == RtE a then
      bif (WdR a b c d).1 == (WdR a b c d).1 then bif (WdR a b c d).2 == (WdR a b c d).2 then .leaf () else .fail else .fail else .fail else .fail else .fail else .fail := by kernel_rfl
  refine law_calls (xs := [.int .i64 a, .int .i64 b, .int .i64 c, .int .i64 d]) (us := [.int .i64 a, .int .i64 b, .int .i64 c, .int .i64 d]) (ctx_ok mixed pu_numbers (fns_cons is_TurfNumbers fns_nil)) 3 ?_ ?_
  · simp only [repL_consI, repL_nilI, rep_intI, and_true]
    exact ⟨h1, h2, h3, h4⟩
  · rw [e]
    simp only [beq_self_eq_true, Bool.and_self, cond_true]
    trivial
end Go.Proofs.Ythgmpjljlpacgaa
