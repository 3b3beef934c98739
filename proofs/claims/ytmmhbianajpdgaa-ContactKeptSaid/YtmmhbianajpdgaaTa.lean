/- Contracts of turf.outside, divide, Divide and of the laws' examples: for every input the quotient rounded to the nearest, and the rest. -/
import Derived.Test.YtmmhbianajpdgaaEk
import Derived.Test.YtmmhbianajpdgaaMa
import Derived.Test.YtmmhbianajpdgaaRows
namespace Go.Proofs.Ytmmhbianajpdgaa
open Go.RowKit Ev

theorem mixed : Try.prog.follows .mixedOrders = true := by kernel_rfl
theorem is_outside : FnIs Try.prog (79, Try.f79) := ⟨Try.func79, by kernel_rfl, by kernel_rfl⟩
theorem is_divide : FnIs Try.prog (87, Try.f87) := ⟨Try.func87, by kernel_rfl, by kernel_rfl⟩
theorem is_Divide : FnIs Try.prog (84, Try.f84) := ⟨Try.func84, by kernel_rfl, by kernel_rfl⟩
theorem is_Root : FnIs Try.prog (64, Try.f64) := ⟨Try.func64, by kernel_rfl, by kernel_rfl⟩
theorem is_root : FnIs Try.prog (80, Try.f80) := ⟨Try.func80, by kernel_rfl, by kernel_rfl⟩
theorem is_Len64 : FnIs Try.prog (86, Try.f86) := ⟨Try.func86, by kernel_rfl, by kernel_rfl⟩
theorem is_fits : FnIs Try.prog (76, Try.f76) := ⟨Try.func76, by kernel_rfl, by kernel_rfl⟩
theorem is_CheckDisc : FnIs Try.prog (57, Try.f57) := ⟨Try.func57, by kernel_rfl, by kernel_rfl⟩
/-! outside -/
def g_outside : PureT
  | [.int .i64 a, .int .i64 b, .int .i64 c] => some (true, .bool (outB a b c))
  | _ => none
theorem p_outside : PureOk Try.prog 79 g_outside := by
  refine pureOk_of_ev (ctx_ok mixed puOk_nil (fns_cons is_outside fns_nil)) 2 fun xs x hw h => ?_
  unfold g_outside at h
  split at h
  · rename_i a b c
    simp only [Option.some.injEq, Prod.mk.injEq, true_and] at h
    subst h
    refine ⟨rfl, ?_⟩
    have e : evFn (ctx Try.prog [] [(79, Try.f79)]) 2 79 [.int .i64 a, .int .i64 b, .int .i64 c] noHeap 0 outK = bif decide (a < b) then .leaf (.bool true) else .leaf (.bool (decide (a > c))) := by kernel_rfl
    rw [e]
    refine sat_cond (fun h1 => ?_) (fun h1 => ?_) <;> (show AV.bool _ = AV.bool _; unfold outB; rw [h1]; rfl)
  · simp at h
theorem pu1 : PuOk Try.prog [(79, g_outside)] := puOk_cons is_outside.plain p_outside puOk_nil

/-! divide, of a number of amount at most 2^60, by one from 1 to 2^60 -/
def dOk (n d : Int) : Bool := decide (-1152921504606846976 ≤ n ∧ n ≤ 1152921504606846976 ∧ 1 ≤ d ∧ d ≤ 1152921504606846976)
def g_divide : PureT
  | [.int .i64 n, .int .i64 d] => some (dvOk n d, .agg [.int .i64 (DW n d), .int .i64 (DR n d)])
  | _ => none
theorem p_divide : PureOk Try.prog 87 g_divide := by
  refine pureOk_of_ev (ctx_ok mixed puOk_nil (fns_cons is_divide fns_nil)) 2 fun xs x hw h => ?_
  unfold g_divide at h
  split at h
  · rename_i n d
    simp only [Option.some.injEq, Prod.mk.injEq] at h
    obtain ⟨hok, rfl⟩ := h
    unfold dvOk at hok
    obtain ⟨h1, h2, h3, h4⟩ := of_decide_eq_true hok
    refine ⟨rfl, ?_⟩
    have e : evFn (ctx Try.prog [] [(87, Try.f87)]) 2 87 [.int .i64 n, .int .i64 d] noHeap 0 outK =
        bif d != 0 then bif d != 0 then
          bif decide (IntKind.i64.wrap (2 * n.tmod d) ≥ d) then .leaf (.agg [.int .i64 (IntKind.i64.wrap (IntKind.i64.wrap (n.tdiv d) + 1)), .int .i64 (IntKind.i64.wrap (n.tmod d - d))])
          else bif decide (IntKind.i64.wrap (2 * n.tmod d) < IntKind.i64.wrap (0 - d)) then .leaf (.agg [.int .i64 (IntKind.i64.wrap (IntKind.i64.wrap (n.tdiv d) - 1)), .int .i64 (IntKind.i64.wrap (n.tmod d + d))])
          else .leaf (.agg [.int .i64 (IntKind.i64.wrap (n.tdiv d)), .int .i64 (n.tmod d)])
        else .fail else .fail := by kernel_rfl
    rw [e]
    have hd : (d != 0) = true := by simp; omega
    have ⟨k1, k2⟩ := tm_bd n d h3
    have ⟨k3, k4⟩ := td_bd n d 1152921504606846976 h3 h1 h2
    rw [wrap_id (n := 2 * n.tmod d) (by omega) (by omega), wrap_id (n := n.tdiv d) (by omega) (by omega), wrap_id (n := n.tdiv d + 1) (by omega) (by omega), wrap_id (n := n.tdiv d - 1) (by omega) (by omega),
      wrap_id (n := n.tmod d - d) (by omega) (by omega), wrap_id (n := n.tmod d + d) (by omega) (by omega), wrap_id (n := 0 - d) (by omega) (by omega), hd]
    refine sat_cond (fun _ => sat_cond (fun _ => sat_cond (fun h5 => ?_) (fun h5 => sat_cond (fun h6 => ?_) (fun h6 => ?_))) (fun h => by simp at h)) (fun h => by simp at h)
    · obtain ⟨e1, e2⟩ := dw_hi n d h3 (of_decide_eq_true h5)
      show AV.agg _ = AV.agg _
      rw [e1, e2]
    · obtain ⟨e1, e2⟩ := dw_lo n d h3 (by have := of_decide_eq_true h6; omega)
      show AV.agg _ = AV.agg _
      rw [e1, e2]
    · obtain ⟨e1, e2⟩ := dw_mid n d h3 (by have := of_decide_eq_false h5; omega) (by have := of_decide_eq_false h6; omega)
      show AV.agg _ = AV.agg _
      rw [e1, e2]
  · simp at h
theorem pu2 : PuOk Try.prog [(87, g_divide), (79, g_outside)] := puOk_cons is_divide.plain p_divide pu1

/-! Divide -/
def g_Divide : PureT
  | [.int .i64 n, .int .i64 d] => some (true, .tup [.agg [.int .i64 (DvW n d), .int .i64 (DvR n d)], .int .i64 (DvE n d)])
  | _ => none
theorem p_Divide : PureOk Try.prog 84 g_Divide := by
  refine pureOk_of_ev (ctx_ok mixed pu2 (fns_cons is_Divide fns_nil)) 2 fun xs x hw h => ?_
  unfold g_Divide at h
  split at h
  · rename_i n d
    simp only [Option.some.injEq, Prod.mk.injEq, true_and] at h
    subst h
    refine ⟨rfl, ?_⟩
    have e : evFn (ctx Try.prog [(87, g_divide), (79, g_outside)] [(84, Try.f84)]) 2 84 [.int .i64 n, .int .i64 d] noHeap 0 outK =
        bif outB n (-1152921504606846976) 1152921504606846976 then .leaf (.tup [.agg [.int .i64 0, .int .i64 0], .int .i64 3])
        else bif outB d 1 1152921504606846976 then .leaf (.tup [.agg [.int .i64 0, .int .i64 0], .int .i64 3])
        else bif dvOk n d then
          bif (DW n d == 0) && ((DR n d == 0) && true) then .leaf (.tup [.agg [.int .i64 0, .int .i64 0], .int .i64 0])
          else .leaf (.tup [.agg [.int .i64 (DW n d), .int .i64 (DR n d)], .int .i64 0])
        else .fail := by kernel_rfl
    rw [e]
    refine sat_cond (fun h1 => ?_) (fun h1 => sat_cond (fun h2 => ?_) (fun h2 => sat_cond (fun h3 => ?_) (fun h3 => ?_)))
    · obtain ⟨e1, e2, e3⟩ := dv_err1 n d h1
      show AV.tup _ = AV.tup _
      rw [e1, e2, e3]
    · obtain ⟨e1, e2, e3⟩ := dv_err2 n d h2
      show AV.tup _ = AV.tup _
      rw [e1, e2, e3]
    · have ⟨k1, k2⟩ := out_no h1
      have ⟨k3, k4⟩ := out_no h2
      obtain ⟨e1, e2, e3⟩ := dv_ok n d k1 k2 k3 k4
      refine sat_cond (fun h4 => ?_) (fun h4 => ?_)
      · simp at h4
        show AV.tup _ = AV.tup _
        rw [e1, e2, e3, h4.1, h4.2]
      · show AV.tup _ = AV.tup _
        rw [e1, e2, e3]
    · rw [dvOk_out, h1, h2] at h3; simp at h3
  · simp at h
theorem pu3 : PuOk Try.prog [(84, g_Divide), (87, g_divide), (79, g_outside)] := puOk_cons is_Divide.plain p_Divide pu2

/-! the chapter's examples -/
def g_fine : PureT
  | [] => some (true, .bool true)
  | _ => none
end Go.Proofs.Ytmmhbianajpdgaa
