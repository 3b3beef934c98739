/- Contract of the reference roquetref01.Towards: what turf's own computes. -/
import Derived.Test.YthgmpjljlpacgaaTg
namespace Go.Proofs.Ythgmpjljlpacgaa
open Go.RowKit Ev
theorem p_refTowards : PureOk Try.prog 21 g_Towards := by
  refine pureOk_of_ev (ctx_ok mixed pu_ref (fns_cons is_refTowards (fns_cons is_Ahead fns_nil))) 3 fun xs x hw h => ?_
  unfold g_Towards at h
  split at h
  · rename_i px py qx qy l
    simp only [Option.some.injEq, Prod.mk.injEq, true_and] at h
    subst h
    refine ⟨rfl, ?_⟩
    have e : evFn (ctx Try.prog pl_ref [(21, Try.f21), (52, Try.f52)]) 3 21 [.agg [.int .i64 px, .int .i64 py], .agg [.int .i64 qx, .int .i64 qy], .int .i64 l] noHeap 0 outK =
      let d := rt (IntKind.i64.wrap (4096 * sq px py qx qy))
      let ux := IntKind.i64.wrap (IntKind.i64.wrap (64 * IntKind.i64.wrap (px - qx)) * l)
      let uy := IntKind.i64.wrap (IntKind.i64.wrap (64 * IntKind.i64.wrap (py - qy)) * l)
      bif !fpt px py then .leaf (.tup [.agg [.int .i64 0, .int .i64 0], .int .i64 2]) else bif !fpt qx qy then .leaf (.tup [.agg [.int .i64 0, .int .i64 0], .int .i64 2]) else
      bif !!outB l 0 4194304 then .leaf (.tup [.agg [.int .i64 0, .int .i64 0], .int .i64 3]) else
      bif px == qx && (py == qy && true) then .leaf (.tup [.agg [.int .i64 0, .int .i64 0], .int .i64 9]) else
      bif fpt px py && fpt qx qy then bif decide (0 ≤ IntKind.i64.wrap (4096 * sq px py qx qy) ∧ IntKind.i64.wrap (4096 * sq px py qx qy) ≤ 4611686018427387904) then
      bif dvOk ux d then bif dvOk uy d then
      bif !fpt (IntKind.i64.wrap (qx + DW ux d)) (IntKind.i64.wrap (qy + DW uy d)) then .leaf (.tup [.agg [.int .i64 0, .int .i64 0], .int .i64 4]) else
        .leaf (.tup [.agg [.int .i64 (IntKind.i64.wrap (qx + DW ux d)), .int .i64 (IntKind.i64.wrap (qy + DW uy d))], .int .i64 0])
      else .fail else .fail else .fail else .fail := by kernel_rfl
    rw [e]
    dsimp only
    refine sat_cond (fun k => ?_) (fun k1 => sat_cond (fun k => ?_) (fun k2 => sat_cond (fun k => ?_) (fun k3 => sat_cond (fun k => ?_) (fun k4 => ?_))))
    · have k' : fpt px py = false := by simpa using k
      refine sat_leaf ?_
      unfold TwR; rw [k']; rfl
    · have k1' : fpt px py = true := by simpa using k1
      have k' : fpt qx qy = false := by simpa using k
      refine sat_leaf ?_
      unfold TwR; rw [k1', k']; rfl
    · have k1' : fpt px py = true := by simpa using k1
      have k2' : fpt qx qy = true := by simpa using k2
      have k' : outB l 0 4194304 = true := by simpa using k
      refine sat_leaf ?_
      unfold TwR; rw [k1', k2', k']; rfl
    · have k1' : fpt px py = true := by simpa using k1
      have k2' : fpt qx qy = true := by simpa using k2
      have k3' : outB l 0 4194304 = false := by simpa using k3
      refine sat_leaf ?_
      rw [Bool.and_true] at k
      unfold TwR; rw [k1', k2', k3', k]; rfl
    · have k1' : fpt px py = true := by simpa using k1
      have k2' : fpt qx qy = true := by simpa using k2
      have k3' : outB l 0 4194304 = false := by simpa using k3
      have c1 := fpt_bd k1'
      have c2 := fpt_bd k2'
      have c3 := out_false k3'
      rw [Bool.and_true] at k4
      have hne : ¬ (px = qx ∧ py = qy) := by
        intro hh; simp [hh.1, hh.2] at k4
      have s1 := sq_bd k1' k2'
      have hd := dTo_bd k1' k2' hne
      have ex : 64 * (px - qx) * l = 64 * l * (px - qx) := by grind
      have ey : 64 * (py - qy) * l = 64 * l * (py - qy) := by grind
      have b1 := mul_bd (a := 64 * l) (b := px - qx) (A := 268435456) (B := 8388608) (by omega) (by omega) (by omega) (by omega)
      have b2 := mul_bd (a := 64 * l) (b := py - qy) (A := 268435456) (B := 8388608) (by omega) (by omega) (by omega) (by omega)
      rw [wrap_id (n := 4096 * sq px py qx qy) (by omega) (by omega), wrap_id (n := px - qx) (by omega) (by omega), wrap_id (n := py - qy) (by omega) (by omega), wrap_id (n := 64 * (px - qx)) (by omega) (by omega), wrap_id (n := 64 * (py - qy)) (by omega) (by omega), ex, ey, wrap_id (n := 64 * l * (px - qx)) (by omega) (by omega), wrap_id (n := 64 * l * (py - qy)) (by omega) (by omega)]
      have hdd : rt (4096 * sq px py qx qy) = dTo px py qx qy := by unfold dTo; rw [Int.mul_comm]
      rw [hdd]
      have w1 := dw_bd (64 * l * (px - qx)) (dTo px py qx qy) 2251799813685248 hd.1 (by omega) (by omega) (by omega)
      have w2 := dw_bd (64 * l * (py - qy)) (dTo px py qx qy) 2251799813685248 hd.1 (by omega) (by omega) (by omega)
      rw [wrap_id (n := qx + DW (64 * l * (px - qx)) (dTo px py qx qy)) (by omega) (by omega), wrap_id (n := qy + DW (64 * l * (py - qy)) (dTo px py qx qy)) (by omega) (by omega)]
      have v1 : dvOk (64 * l * (px - qx)) (dTo px py qx qy) = true := by unfold dvOk; exact decide_eq_true (by omega)
      have v2 : dvOk (64 * l * (py - qy)) (dTo px py qx qy) = true := by unfold dvOk; exact decide_eq_true (by omega)
      have v3 : decide (0 ≤ 4096 * sq px py qx qy ∧ 4096 * sq px py qx qy ≤ 4611686018427387904) = true := decide_eq_true (by omega)
      have hT : TwR px py qx qy l = bif fpt (ToX px qx (dTo px py qx qy) l) (ToX py qy (dTo px py qx qy) l) then ((ToX px qx (dTo px py qx qy) l, ToX py qy (dTo px py qx qy) l), 0) else ((0, 0), 4) := by
        unfold TwR; rw [k1', k2', k3', k4]; rfl
      rw [k1', k2', v1, v2, v3, hT]
      simp only [cond_true, Bool.and_self]
      refine sat_cond (fun k => ?_) (fun k => ?_)
      · have k' : fpt (ToX px qx (dTo px py qx qy) l) (ToX py qy (dTo px py qx qy) l) = false := by
          have : fpt (qx + DW (64 * l * (px - qx)) (dTo px py qx qy)) (qy + DW (64 * l * (py - qy)) (dTo px py qx qy)) = false := by simpa using k
          exact this
        rw [k']; exact sat_leaf rfl
      · have k' : fpt (ToX px qx (dTo px py qx qy) l) (ToX py qy (dTo px py qx qy) l) = true := by
          have : fpt (qx + DW (64 * l * (px - qx)) (dTo px py qx qy)) (qy + DW (64 * l * (py - qy)) (dTo px py qx qy)) = true := by simpa using k
          exact this
        rw [k']; exact sat_leaf rfl
  · simp at h
end Go.Proofs.Ythgmpjljlpacgaa
