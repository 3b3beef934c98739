/- Contracts of turf.square, Square and Towards. -/
import Derived.Test.YthgmpjljlpacgaaTc
import Derived.Test.YthgmpjljlpacgaaMd
namespace Go.Proofs.Ythgmpjljlpacgaa
open Go.RowKit Ev
theorem is_square : FnIs Try.prog (49, Try.f49) := ⟨Try.func49, by kernel_rfl, by kernel_rfl⟩
theorem is_Square : FnIs Try.prog (19, Try.f19) := ⟨Try.func19, by kernel_rfl, by kernel_rfl⟩
theorem is_Towards : FnIs Try.prog (18, Try.f18) := ⟨Try.func18, by kernel_rfl, by kernel_rfl⟩

def g_square : PureT
  | [.agg [.int .i64 ax, .int .i64 ay], .agg [.int .i64 bx, .int .i64 bY]] => some (fpt ax ay && fpt bx bY, .int .i64 (sq ax ay bx bY))
  | _ => none
theorem p_square : PureOk Try.prog 49 g_square := by
  refine pureOk_of_ev (ctx_ok mixed puOk_nil (fns_cons is_square fns_nil)) 2 fun xs x hw h => ?_
  unfold g_square at h
  split at h
  · rename_i ax ay bx bY
    simp only [Option.some.injEq, Prod.mk.injEq] at h
    obtain ⟨hok, rfl⟩ := h
    rw [Bool.and_eq_true] at hok
    have c1 := fpt_bd hok.1
    have c2 := fpt_bd hok.2
    refine ⟨rfl, ?_⟩
    have e : evFn (ctx Try.prog [] [(49, Try.f49)]) 2 49 [.agg [.int .i64 ax, .int .i64 ay], .agg [.int .i64 bx, .int .i64 bY]] noHeap 0 outK =
      .leaf (.int .i64 (IntKind.i64.wrap (IntKind.i64.wrap (IntKind.i64.wrap (bx - ax) * IntKind.i64.wrap (bx - ax)) + IntKind.i64.wrap (IntKind.i64.wrap (bY - ay) * IntKind.i64.wrap (bY - ay))))) := by kernel_rfl
    have b1 := mul_bd (a := bx - ax) (b := bx - ax) (A := 8388608) (B := 8388608) (by omega) (by omega) (by omega) (by omega)
    have b2 := mul_bd (a := bY - ay) (b := bY - ay) (A := 8388608) (B := 8388608) (by omega) (by omega) (by omega) (by omega)
    rw [e, wrap_id (n := bx - ax) (by omega) (by omega), wrap_id (n := bY - ay) (by omega) (by omega), wrap_id (n := (bx - ax) * (bx - ax)) (by omega) (by omega), wrap_id (n := (bY - ay) * (bY - ay)) (by omega) (by omega), wrap_id (n := (bx - ax) * (bx - ax) + (bY - ay) * (bY - ay)) (by omega) (by omega)]
    refine sat_leaf ?_
    unfold sq; rfl
  · simp at h
def pl_sq : List (Nat × PureT) := [(49, g_square), (48, g_root), (46, g_divide), (45, g_outside)]
theorem pu_sq : PuOk Try.prog pl_sq := puOk_cons is_square.plain p_square (puOk_cons is_root.plain p_root pu2)

/-! Square -/
def SqR (ax ay bx bY : Int) : Int × Int := bif fpt ax ay && fpt bx bY then (sq ax ay bx bY, 0) else (0, 2)
def g_Square : PureT
  | [.agg [.int .i64 ax, .int .i64 ay], .agg [.int .i64 bx, .int .i64 bY]] => some (true, .tup [.int .i64 (SqR ax ay bx bY).1, .int .i64 (SqR ax ay bx bY).2])
  | _ => none
theorem p_Square : PureOk Try.prog 19 g_Square := by
  refine pureOk_of_ev (ctx_ok mixed pu_sq (fns_cons is_Square (fns_cons is_fits fns_nil))) 3 fun xs x hw h => ?_
  unfold g_Square at h
  split at h
  · rename_i ax ay bx bY
    simp only [Option.some.injEq, Prod.mk.injEq, true_and] at h
    subst h
    simp only [WFL, WF, and_true] at hw
    obtain ⟨⟨a1, a2⟩, a3, a4⟩ := hw
    refine ⟨rfl, ?_⟩
    have e : evFn (ctx Try.prog pl_sq [(19, Try.f19), (47, Try.f47)]) 3 19 [.agg [.int .i64 ax, .int .i64 ay], .agg [.int .i64 bx, .int .i64 bY]] noHeap 0 outK =
      bif fitC ax ay then .leaf (.tup [.int .i64 0, .int .i64 2]) else bif fitD ax ay then .leaf (.tup [.int .i64 0, .int .i64 2]) else
      bif fitC bx bY then .leaf (.tup [.int .i64 0, .int .i64 2]) else bif fitD bx bY then .leaf (.tup [.int .i64 0, .int .i64 2]) else
      bif fpt ax ay && fpt bx bY then .leaf (.tup [.int .i64 (sq ax ay bx bY), .int .i64 0]) else .fail := by kernel_rfl
    rw [e]
    refine fit_sat a1 a2 (fun k => ?_) (fun k1 => fit_sat a3 a4 (fun k => ?_) (fun k2 => ?_))
    · refine sat_leaf ?_
      unfold SqR; rw [k]; rfl
    · refine sat_leaf ?_
      unfold SqR; rw [k1, k]; rfl
    · rw [k1, k2]
      refine sat_leaf ?_
      unfold SqR; rw [k1, k2]; rfl
  · simp at h

/-! Towards -/
def ToX (px qx d l : Int) : Int := qx + DW (64 * l * (px - qx)) d
def dTo (px py qx qy : Int) : Int := rt (sq px py qx qy * 4096)
def TwR (px py qx qy l : Int) : (Int × Int) × Int :=
  bif fpt px py && fpt qx qy then bif outB l 0 4194304 then ((0, 0), 3) else bif px == qx && py == qy then ((0, 0), 9) else
    bif fpt (ToX px qx (dTo px py qx qy) l) (ToX py qy (dTo px py qx qy) l) then ((ToX px qx (dTo px py qx qy) l, ToX py qy (dTo px py qx qy) l), 0) else ((0, 0), 4)
  else ((0, 0), 2)
def g_Towards : PureT
  | [.agg [.int .i64 px, .int .i64 py], .agg [.int .i64 qx, .int .i64 qy], .int .i64 l] => some (true, .tup [.agg [.int .i64 (TwR px py qx qy l).1.1, .int .i64 (TwR px py qx qy l).1.2], .int .i64 (TwR px py qx qy l).2])
  | _ => none
theorem sq_bd {px py qx qy : Int} (h : fpt px py = true) (k : fpt qx qy = true) : 0 ≤ sq px py qx qy ∧ sq px py qx qy ≤ 140737488355328 := by
  have c1 := fpt_bd h
  have c2 := fpt_bd k
  have b1 := mul_bd (a := qx - px) (b := qx - px) (A := 8388608) (B := 8388608) (by omega) (by omega) (by omega) (by omega)
  have b2 := mul_bd (a := qy - py) (b := qy - py) (A := 8388608) (B := 8388608) (by omega) (by omega) (by omega) (by omega)
  have b3 := self_nn (qx - px)
  have b4 := self_nn (qy - py)
  unfold sq; omega
theorem dTo_bd {px py qx qy : Int} (h : fpt px py = true) (k : fpt qx qy = true) (hne : ¬ (px = qx ∧ py = qy)) : 1 ≤ dTo px py qx qy ∧ dTo px py qx qy ≤ 576460752303423488 := by
  have h1 := sq_bd h k
  have h2 := sq_pos hne
  obtain ⟨r1, r2, r3⟩ := rt_spec (sq px py qx qy * 4096) (by omega)
  unfold dTo
  generalize rt (sq px py qx qy * 4096) = d at r1 r2 r3
  have hd : 1 ≤ d := by
    rcases Int.lt_or_le d 1 with x | x
    · have : d = 0 := by omega
      subst this
      omega
    · exact x
  have := Int.mul_le_mul_of_nonneg_left hd (show 0 ≤ d by omega)
  omega

theorem p_Towards : PureOk Try.prog 18 g_Towards := by
  refine pureOk_of_ev (ctx_ok mixed pu_sq (fns_cons is_Towards (fns_cons is_fits fns_nil))) 3 fun xs x hw h => ?_
  unfold g_Towards at h
  split at h
  · rename_i px py qx qy l
    simp only [Option.some.injEq, Prod.mk.injEq, true_and] at h
    subst h
    simp only [WFL, WF, and_true] at hw
    obtain ⟨⟨a1, a2⟩, ⟨a3, a4⟩, a5⟩ := hw
    refine ⟨rfl, ?_⟩
    have e : evFn (ctx Try.prog pl_sq [(18, Try.f18), (47, Try.f47)]) 3 18 [.agg [.int .i64 px, .int .i64 py], .agg [.int .i64 qx, .int .i64 qy], .int .i64 l] noHeap 0 outK =
      let d := rt (IntKind.i64.wrap (sq px py qx qy * 4096))
      let ux := IntKind.i64.wrap (IntKind.i64.wrap (64 * l) * IntKind.i64.wrap (px - qx))
      let uy := IntKind.i64.wrap (IntKind.i64.wrap (64 * l) * IntKind.i64.wrap (py - qy))
      bif fitC px py then .leaf (.tup [.agg [.int .i64 0, .int .i64 0], .int .i64 2]) else bif fitD px py then .leaf (.tup [.agg [.int .i64 0, .int .i64 0], .int .i64 2]) else
      bif fitC qx qy then .leaf (.tup [.agg [.int .i64 0, .int .i64 0], .int .i64 2]) else bif fitD qx qy then .leaf (.tup [.agg [.int .i64 0, .int .i64 0], .int .i64 2]) else
      bif outB l 0 4194304 then .leaf (.tup [.agg [.int .i64 0, .int .i64 0], .int .i64 3]) else
      bif px == qx && (py == qy && true) then .leaf (.tup [.agg [.int .i64 0, .int .i64 0], .int .i64 9]) else
      bif fpt px py && fpt qx qy then bif decide (0 ≤ IntKind.i64.wrap (sq px py qx qy * 4096) ∧ IntKind.i64.wrap (sq px py qx qy * 4096) ≤ 4611686018427387904) then
      bif dvOk ux d then bif dvOk uy d then
      bif fitC (IntKind.i64.wrap (qx + DW ux d)) (IntKind.i64.wrap (qy + DW uy d)) then .leaf (.tup [.agg [.int .i64 0, .int .i64 0], .int .i64 4]) else bif fitD (IntKind.i64.wrap (qx + DW ux d)) (IntKind.i64.wrap (qy + DW uy d)) then .leaf (.tup [.agg [.int .i64 0, .int .i64 0], .int .i64 4]) else
        .leaf (.tup [.agg [.int .i64 (IntKind.i64.wrap (qx + DW ux d)), .int .i64 (IntKind.i64.wrap (qy + DW uy d))], .int .i64 0])
      else .fail else .fail else .fail else .fail := by kernel_rfl
    rw [e]
    dsimp only
    refine fit_sat a1 a2 (fun k => ?_) (fun k1 => fit_sat a3 a4 (fun k => ?_) (fun k2 => sat_cond (fun k => ?_) (fun k3 => sat_cond (fun k => ?_) (fun k4 => ?_))))
    · refine sat_leaf ?_
      unfold TwR; rw [k]; rfl
    · refine sat_leaf ?_
      unfold TwR; rw [k1, k]; rfl
    · refine sat_leaf ?_
      unfold TwR; rw [k1, k2, k]; rfl
    · refine sat_leaf ?_
      rw [Bool.and_true] at k
      unfold TwR; rw [k1, k2, k3, k]; rfl
    · have c1 := fpt_bd k1
      have c2 := fpt_bd k2
      have c3 := out_false k3
      rw [Bool.and_true] at k4
      have hne : ¬ (px = qx ∧ py = qy) := by
        intro hh; simp [hh.1, hh.2] at k4
      have s1 := sq_bd k1 k2
      have hd := dTo_bd k1 k2 hne
      have b1 := mul_bd (a := 64 * l) (b := px - qx) (A := 268435456) (B := 8388608) (by omega) (by omega) (by omega) (by omega)
      have b2 := mul_bd (a := 64 * l) (b := py - qy) (A := 268435456) (B := 8388608) (by omega) (by omega) (by omega) (by omega)
      rw [wrap_id (n := sq px py qx qy * 4096) (by omega) (by omega), wrap_id (n := 64 * l) (by omega) (by omega), wrap_id (n := px - qx) (by omega) (by omega), wrap_id (n := py - qy) (by omega) (by omega), wrap_id (n := 64 * l * (px - qx)) (by omega) (by omega), wrap_id (n := 64 * l * (py - qy)) (by omega) (by omega)]
      have hdd : rt (sq px py qx qy * 4096) = dTo px py qx qy := rfl
      rw [hdd]
      have w1 := dw_bd (64 * l * (px - qx)) (dTo px py qx qy) 2251799813685248 hd.1 (by omega) (by omega) (by omega)
      have w2 := dw_bd (64 * l * (py - qy)) (dTo px py qx qy) 2251799813685248 hd.1 (by omega) (by omega) (by omega)
      rw [wrap_id (n := qx + DW (64 * l * (px - qx)) (dTo px py qx qy)) (by omega) (by omega), wrap_id (n := qy + DW (64 * l * (py - qy)) (dTo px py qx qy)) (by omega) (by omega)]
      have v1 : dvOk (64 * l * (px - qx)) (dTo px py qx qy) = true := by unfold dvOk; exact decide_eq_true (by omega)
      have v2 : dvOk (64 * l * (py - qy)) (dTo px py qx qy) = true := by unfold dvOk; exact decide_eq_true (by omega)
      rw [k1, k2, v1, v2]
      have v3 : decide (0 ≤ sq px py qx qy * 4096 ∧ sq px py qx qy * 4096 ≤ 4611686018427387904) = true := decide_eq_true (by omega)
      rw [v3]
      have hT : TwR px py qx qy l = bif fpt (ToX px qx (dTo px py qx qy) l) (ToX py qy (dTo px py qx qy) l) then ((ToX px qx (dTo px py qx qy) l, ToX py qy (dTo px py qx qy) l), 0) else ((0, 0), 4) := by
        unfold TwR; rw [k1, k2, k3, k4]; rfl
      rw [hT]
      simp only [cond_true, Bool.and_self]
      refine fit_sat ?_ ?_ (fun k => ?_) (fun k => ?_)
      · simp only [inK, minK, maxK]; omega
      · simp only [inK, minK, maxK]; omega
      · have k' : fpt (ToX px qx (dTo px py qx qy) l) (ToX py qy (dTo px py qx qy) l) = false := k
        rw [k']; exact sat_leaf rfl
      · have k' : fpt (ToX px qx (dTo px py qx qy) l) (ToX py qy (dTo px py qx qy) l) = true := k
        rw [k']; exact sat_leaf rfl
  · simp at h
end Go.Proofs.Ythgmpjljlpacgaa
