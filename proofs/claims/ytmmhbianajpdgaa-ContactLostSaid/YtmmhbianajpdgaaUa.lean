/- Contracts of turf, in the second edition: by bridges from the first. -/
import Derived.Test.YtmmhbianajpdgaaVl
import Derived.Test.YtmmhbianajpdgaaVy
import Derived.Test.YtmmhbianajpdgaaTe
import Derived.Test.YtmmhbianajpdgaaTf
namespace Go.Proofs.Ytmmhbianajpdgaa
open Go.RowKit
section
open Ev
theorem u_is_Check : FnIs Try.prog (70, Try.f70) := ⟨Try.func70, by kernel_rfl, by kernel_rfl⟩
theorem u_is_rCheckDisc : FnIs Try.prog (61, Try.f61) := ⟨Try.func61, by kernel_rfl, by kernel_rfl⟩
def u_ck (x y : Int) : Int := bif fpt x y then 0 else 2
def u_Check : PureT
  | [.agg [.int .i64 ax, .int .i64 ay]] => some (true, .int .i64 (u_ck ax ay))
  | _ => none
theorem u_p_Check : PureOk Try.prog 70 u_Check := by
  refine pureOk_of_ev (ctx_ok mixed puOk_nil (fns_cons u_is_Check (fns_cons is_fits fns_nil))) 3 fun xs x hw h => ?_
  unfold u_Check at h
  split at h
  · rename_i ax ay
    simp only [Option.some.injEq, Prod.mk.injEq, true_and] at h
    subst h
    simp only [WFL, WF, and_true] at hw
    obtain ⟨a1, a2⟩ := hw
    refine ⟨rfl, ?_⟩
    have e : evFn (ctx Try.prog [] [(70, Try.f70), (76, Try.f76)]) 3 70 [.agg [.int .i64 ax, .int .i64 ay]] noHeap 0 outK = bif fitC ax ay then .leaf (.int .i64 2) else bif fitD ax ay then .leaf (.int .i64 2) else .leaf (.int .i64 0) := by kernel_rfl
    rw [e]
    refine fit_sat a1 a2 (fun k => ?_) (fun k => ?_) <;> (refine sat_leaf ?_; unfold u_ck; rw [k]; rfl)
  · simp at h
def u_cdOk (x y r : Int) : Bool := fpt x y && !outB r 1 65536
def u_cd (x y r : Int) : Int := bif u_cdOk x y r then 0 else 2
def u_CheckDisc : PureT
  | [.agg [.int .i64 px, .int .i64 py, .int .i64 r]] => some (true, .int .i64 (u_cd px py r))
  | _ => none
theorem u_p_CheckDisc : PureOk Try.prog 57 u_CheckDisc := by
  refine pureOk_of_ev (ctx_ok mixed puOk_nil (fns_cons is_CheckDisc (fns_cons is_fits fns_nil))) 3 fun xs x hw h => ?_
  unfold u_CheckDisc at h
  split at h
  · rename_i px py r
    simp only [Option.some.injEq, Prod.mk.injEq, true_and] at h
    subst h
    simp only [WFL, WF, and_true] at hw
    obtain ⟨a1, a2, a3⟩ := hw
    refine ⟨rfl, ?_⟩
    have e : evFn (ctx Try.prog [] [(57, Try.f57), (76, Try.f76)]) 3 57 [.agg [.int .i64 px, .int .i64 py, .int .i64 r]] noHeap 0 outK = bif fitC px py then .leaf (.int .i64 2) else bif fitD px py then .leaf (.int .i64 2) else
      bif decide (r < 1) then .leaf (.int .i64 2) else bif decide (r > 65536) then .leaf (.int .i64 2) else .leaf (.int .i64 0) := by kernel_rfl
    rw [e]
    refine fit_sat a1 a2 (fun k => ?_) (fun k1 => sat_cond (fun k => ?_) (fun k2 => sat_cond (fun k => ?_) (fun k3 => ?_)))
    · refine sat_leaf ?_
      unfold u_cd u_cdOk; rw [k]; rfl
    · refine sat_leaf ?_
      unfold u_cd u_cdOk outB; rw [k1, k]; rfl
    · have k' : decide (65536 < r) = true := k
      refine sat_leaf ?_
      unfold u_cd u_cdOk outB; rw [k1, k2, k']; rfl
    · have k' : decide (65536 < r) = false := k3
      refine sat_leaf ?_
      unfold u_cd u_cdOk outB; rw [k1, k2, k']; rfl
  · simp at h
theorem u_p_rCheckDisc : PureOk Try.prog 61 u_CheckDisc := by
  refine pureOk_of_ev (ctx_ok mixed (puOk_cons is_Valid.plain p_Valid (puOk_cons is_Among.plain p_Among puOk_nil)) (fns_cons u_is_rCheckDisc fns_nil)) 3 fun xs x hw h => ?_
  unfold u_CheckDisc at h
  split at h
  · rename_i px py r
    simp only [Option.some.injEq, Prod.mk.injEq, true_and] at h
    subst h
    refine ⟨rfl, ?_⟩
    have e : evFn (ctx Try.prog [(45, g_Valid), (71, g_Among)] [(61, Try.f61)]) 3 61 [.agg [.int .i64 px, .int .i64 py, .int .i64 r]] noHeap 0 outK = bif !fpt px py then .leaf (.int .i64 2) else bif !!outB r 1 65536 then .leaf (.int .i64 2) else .leaf (.int .i64 0) := by kernel_rfl
    rw [e]
    unfold u_cd u_cdOk
    cases fpt px py <;> cases outB r 1 65536 <;> exact sat_leaf rfl
  · simp at h
end
namespace V
/-! codes -/
abbrev cI : TC := .i .i64
abbrev cPt : TC := .st [.i .i64, .i .i64]
abbrev cDisc : TC := .st [cPt, .i .i64]
abbrev s_Check : PureT := spec [cPt] [cI] (fun _ => true) (fun x => (u_ck x.1.1 x.1.2.1, ()))
theorem q_Check : PureOk Try.prog 70 s_Check := bridge u_p_Check _ _ rfl (fun _ => rfl)
abbrev s_CheckDisc : PureT := spec [cDisc] [cI] (fun _ => true) (fun x => (u_cd x.1.1.1 x.1.1.2.1 x.1.2.1, ()))
theorem q_CheckDisc : PureOk Try.prog 57 s_CheckDisc := bridge u_p_CheckDisc _ _ rfl (fun _ => rfl)
theorem q_rCheckDisc : PureOk Try.prog 61 s_CheckDisc := bridge u_p_rCheckDisc _ _ rfl (fun _ => rfl)
abbrev s_Valid : PureT := spec [cPt] [.b] (fun _ => true) (fun x => (fpt x.1.1 x.1.2.1, ()))
theorem q_Valid : PureOk Try.prog 45 s_Valid := bridge p_Valid _ _ rfl (fun _ => rfl)
abbrev s_Divide : PureT := spec [cI, cI] [.st [cI, cI], cI] (fun _ => true) (fun x => ((DvW x.1 x.2.1, DvR x.1 x.2.1, ()), DvE x.1 x.2.1, ()))
theorem q_Divide : PureOk Try.prog 84 s_Divide := bridge p_Divide _ _ rfl (fun _ => rfl)
abbrev s_Parted : PureT := spec [cI, cI] [.st [cI, cI]] (fun x => dvOk x.1 x.2.1) (fun x => ((DW x.1 x.2.1, DR x.1 x.2.1, ()), ()))
theorem q_Parted : PureOk Try.prog 62 s_Parted := bridge p_Parted _ _ rfl (fun _ => rfl)
abbrev s_Root : PureT := spec [cI] [cI, cI] (fun _ => true) (fun x => (RtV x.1, RtE x.1, ()))
theorem q_Root : PureOk Try.prog 64 s_Root := bridge p_Root _ _ rfl (fun _ => rfl)
abbrev s_Sqrt : PureT := spec [cI] [cI] (fun x => decide (0 ≤ x.1 ∧ x.1 ≤ 4611686018427387904)) (fun x => (rt x.1, ()))
theorem q_Sqrt : PureOk Try.prog 81 s_Sqrt := bridge p_Sqrt _ _ rfl (fun _ => rfl)
abbrev s_Square : PureT := spec [cPt, cPt] [cI, cI] (fun _ => true) (fun x => ((SqR x.1.1 x.1.2.1 x.2.1.1 x.2.1.2.1).1, (SqR x.1.1 x.1.2.1 x.2.1.1 x.2.1.2.1).2, ()))
theorem q_Square : PureOk Try.prog 77 s_Square := bridge p_Square _ _ rfl (fun _ => rfl)
abbrev s_Far : PureT := spec [cPt, cPt] [cI] (fun x => fpt x.1.1 x.1.2.1 && fpt x.2.1.1 x.2.1.2.1) (fun x => (sq x.1.1 x.1.2.1 x.2.1.1 x.2.1.2.1, ()))
theorem q_Far : PureOk Try.prog 69 s_Far := bridge p_Far _ _ rfl (fun _ => rfl)
end V
end Go.Proofs.Ytmmhbianajpdgaa
