/- Contracts of turf.square, Square and Towards. -/
import Derived.Test.YtmmhbianajpdgaaTc
import Derived.Test.YtmmhbianajpdgaaMd
namespace Go.Proofs.Ytmmhbianajpdgaa
open Go.RowKit Ev
theorem is_square : FnIs Try.prog (85, Try.f85) := ⟨Try.func85, by kernel_rfl, by kernel_rfl⟩
theorem is_Square : FnIs Try.prog (77, Try.f77) := ⟨Try.func77, by kernel_rfl, by kernel_rfl⟩
def g_square : PureT
  | [.agg [.int .i64 ax, .int .i64 ay], .agg [.int .i64 bx, .int .i64 bY]] => some (fpt ax ay && fpt bx bY, .int .i64 (sq ax ay bx bY))
  | _ => none
theorem p_square : PureOk Try.prog 85 g_square := by
  refine pureOk_of_ev (ctx_ok mixed puOk_nil (fns_cons is_square fns_nil)) 2 fun xs x hw h => ?_
  unfold g_square at h
  split at h
  · rename_i ax ay bx bY
    simp only [Option.some.injEq, Prod.mk.injEq] at h
    obtain ⟨hok, rfl⟩ := h
    rw [Bool.and_eq_true] at hok
    have c1 := fpt_bd hok.1
    have c2 := fpt_bd hok.2
    refine ⟨rfl, ?_⟩
    have e : evFn (ctx Try.prog [] [(85, Try.f85)]) 2 85 [.agg [.int .i64 ax, .int .i64 ay], .agg [.int .i64 bx, .int .i64 bY]] noHeap 0 outK =
      .leaf (.int .i64 (IntKind.i64.wrap (IntKind.i64.wrap (IntKind.i64.wrap (bx - ax) * IntKind.i64.wrap (bx - ax)) + IntKind.i64.wrap (IntKind.i64.wrap (bY - ay) * IntKind.i64.wrap (bY - ay))))) := by kernel_rfl
    have b1 := mul_bd (a := bx - ax) (b := bx - ax) (A := 8388608) (B := 8388608) (by omega) (by omega) (by omega) (by omega)
    have b2 := mul_bd (a := bY - ay) (b := bY - ay) (A := 8388608) (B := 8388608) (by omega) (by omega) (by omega) (by omega)
    rw [e, wrap_id (n := bx - ax) (by omega) (by omega), wrap_id (n := bY - ay) (by omega) (by omega), wrap_id (n := (bx - ax) * (bx - ax)) (by omega) (by omega), wrap_id (n := (bY - ay) * (bY - ay)) (by omega) (by omega), wrap_id (n := (bx - ax) * (bx - ax) + (bY - ay) * (bY - ay)) (by omega) (by omega)]
    refine sat_leaf ?_
    unfold sq; rfl
  · simp at h
def pl_sq : List (Nat × PureT) := [(85, g_square), (80, g_root), (87, g_divide), (79, g_outside)]
theorem pu_sq : PuOk Try.prog pl_sq := puOk_cons is_square.plain p_square (puOk_cons is_root.plain p_root pu2)

/-! Square -/
def SqR (ax ay bx bY : Int) : Int × Int := bif fpt ax ay && fpt bx bY then (sq ax ay bx bY, 0) else (0, 2)
def g_Square : PureT
  | [.agg [.int .i64 ax, .int .i64 ay], .agg [.int .i64 bx, .int .i64 bY]] => some (true, .tup [.int .i64 (SqR ax ay bx bY).1, .int .i64 (SqR ax ay bx bY).2])
  | _ => none
theorem p_Square : PureOk Try.prog 77 g_Square := by
  refine pureOk_of_ev (ctx_ok mixed pu_sq (fns_cons is_Square (fns_cons is_fits fns_nil))) 3 fun xs x hw h => ?_
  unfold g_Square at h
  split at h
  · rename_i ax ay bx bY
    simp only [Option.some.injEq, Prod.mk.injEq, true_and] at h
    subst h
    simp only [WFL, WF, and_true] at hw
    obtain ⟨⟨a1, a2⟩, a3, a4⟩ := hw
    refine ⟨rfl, ?_⟩
    have e : evFn (ctx Try.prog pl_sq [(77, Try.f77), (76, Try.f76)]) 3 77 [.agg [.int .i64 ax, .int .i64 ay], .agg [.int .i64 bx, .int .i64 bY]] noHeap 0 outK =
      bif fitC ax ay then .leaf (.tup [.int .i64 0, .int .i64 2]) else bif fitD ax ay then .leaf (.tup [.int .i64 0, .int .i64 2]) else
      bif fitC bx bY then .leaf (.tup [.int .i64 0, .int .i64 2]) else bif fitD bx bY then .leaf (.tup [.int .i64 0, .int .i64 2]) else
      bif fpt ax ay && fpt bx bY then .leaf (.tup [.int .i64 (sq ax ay bx bY), .int .i64 0]) else .fail := by kernel_rfl
    rw [e]
    refine fit_sat a1 a2 (fun k => ?_) (fun k1 => fit_sat a3 a4 (fun k => ?_) (fun k2 => ?_))
    · refine sat_leaf ?_
      unfold SqR; rw [k]; rfl
    · refine sat_leaf ?_
      unfold SqR; rw [k1, k]; rfl
    · rw [k1, k2]
      refine sat_leaf ?_
      unfold SqR; rw [k1, k2]; rfl
  · simp at h

/-! Towards -/
def ToX (px qx d l : Int) : Int := qx + DW (64 * l * (px - qx)) d
def dTo (px py qx qy : Int) : Int := rt (sq px py qx qy * 4096)
def TwR (px py qx qy l : Int) : (Int × Int) × Int :=
  bif fpt px py && fpt qx qy then bif outB l 0 4194304 then ((0, 0), 3) else bif px == qx && py == qy then ((0, 0), 9) else
    bif fpt (ToX px qx (dTo px py qx qy) l) (ToX py qy (dTo px py qx qy) l) then ((ToX px qx (dTo px py qx qy) l, ToX py qy (dTo px py qx qy) l), 0) else ((0, 0), 4)
  else ((0, 0), 2)
def g_Towards : PureT
  | [.agg [.int .i64 px, .int .i64 py], .agg [.int .i64 qx, .int .i64 qy], .int .i64 l] => some (true, .tup [.agg [.int .i64 (TwR px py qx qy l).1.1, .int .i64 (TwR px py qx qy l).1.2], .int .i64 (TwR px py qx qy l).2])
  | _ => none
theorem sq_bd {px py qx qy : Int} (h : fpt px py = true) (k : fpt qx qy = true) : 0 ≤ sq px py qx qy ∧ sq px py qx qy ≤ 140737488355328 := by
  have c1 := fpt_bd h
  have c2 := fpt_bd k
  have b1 := mul_bd (a := qx - px) (b := qx - px) (A := 8388608) (B := 8388608) (by omega) (by omega) (by omega) (by omega)
  have b2 := mul_bd (a := qy - py) (b := qy - py) (A := 8388608) (B := 8388608) (by omega) (by omega) (by omega) (by omega)
  have b3 := self_nn (qx - px)
  have b4 := self_nn (qy - py)
  unfold sq; omega
theorem dTo_bd {px py qx qy : Int} (h : fpt px py = true) (k : fpt qx qy = true) (hne : ¬ (px = qx ∧ py = qy)) : 1 ≤ dTo px py qx qy ∧ dTo px py qx qy ≤ 576460752303423488 := by
  have h1 := sq_bd h k
  have h2 := sq_pos hne
  obtain ⟨r1, r2, r3⟩ := rt_spec (sq px py qx qy * 4096) (by omega)
  unfold dTo
  generalize rt (sq px py qx qy * 4096) = d at r1 r2 r3
  have hd : 1 ≤ d := by
    rcases Int.lt_or_le d 1 with x | x
    · have : d = 0 := by omega
      subst this
      omega
    · exact x
  have := Int.mul_le_mul_of_nonneg_left hd (show 0 ≤ d by omega)
  omega

end Go.Proofs.Ytmmhbianajpdgaa
