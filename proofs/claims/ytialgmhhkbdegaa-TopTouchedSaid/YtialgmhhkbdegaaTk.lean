/- Contracts of turf.left, lies, Lies. -/
import Derived.Test.YtialgmhhkbdegaaTi
namespace Go.Proofs.Ytialgmhhkbdegaa
open Go.RowKit Ev
theorem is_left : FnIs Try.prog (48, Try.f48) := ⟨Try.func48, by kernel_rfl, by kernel_rfl⟩
theorem is_lies : FnIs Try.prog (26, Try.f26) := ⟨Try.func26, by kernel_rfl, by kernel_rfl⟩
theorem is_Lies : FnIs Try.prog (11, Try.f11) := ⟨Try.func11, by kernel_rfl, by kernel_rfl⟩
/-- how far p is on the left of the way from a to b, times its length -/
def lft (ax ay bx bY px py : Int) : Int := (bx - ax) * (py - ay) - (px - ax) * (bY - ay)
def alg (ax ay bx bY px py : Int) : Int := (bx - ax) * (px - ax) + (bY - ay) * (py - ay)
/-- how a place lies to a segment with a radius -/
def LsV (ax ay bx bY px py r : Int) : Int :=
  bif decide (alg ax ay bx bY px py ≤ 0) then (sq ax ay px py - r * r).sign else
  bif decide (sq ax ay bx bY ≤ alg ax ay bx bY px py) then (sq bx bY px py - r * r).sign else
  (lft ax ay bx bY px py * lft ax ay bx bY px py - r * r * sq ax ay bx bY).sign
theorem two_bd {x y u v : Int} (h1 : -8388608 ≤ x ∧ x ≤ 8388608) (h2 : -8388608 ≤ y ∧ y ≤ 8388608) (h3 : -8388608 ≤ u ∧ u ≤ 8388608) (h4 : -8388608 ≤ v ∧ v ≤ 8388608) :
    (-70368744177664 ≤ x * y ∧ x * y ≤ 70368744177664) ∧ (-70368744177664 ≤ u * v ∧ u * v ≤ 70368744177664) := by
  have b1 := mul_bd (a := x) (b := y) (A := 8388608) (B := 8388608) (by omega) (by omega) (by omega) (by omega)
  have b2 := mul_bd (a := u) (b := v) (A := 8388608) (B := 8388608) (by omega) (by omega) (by omega) (by omega)
  omega
def g_left : PureT
  | [.agg [.int .i64 ax, .int .i64 ay], .agg [.int .i64 bx, .int .i64 bY], .agg [.int .i64 px, .int .i64 py]] => some (fpt ax ay && (fpt bx bY && fpt px py), .int .i64 (lft ax ay bx bY px py))
  | _ => none
theorem p_left : PureOk Try.prog 48 g_left := by
  refine pureOk_of_ev (ctx_ok mixed puOk_nil (fns_cons is_left fns_nil)) 2 fun xs x hw h => ?_
  unfold g_left at h
  split at h
  · rename_i ax ay bx bY px py
    simp only [Option.some.injEq, Prod.mk.injEq] at h
    obtain ⟨hok, rfl⟩ := h
    simp only [Bool.and_eq_true] at hok
    have c1 := fpt_bd hok.1
    have c2 := fpt_bd hok.2.1
    have c3 := fpt_bd hok.2.2
    refine ⟨rfl, ?_⟩
    have e : evFn (ctx Try.prog [] [(48, Try.f48)]) 2 48 [.agg [.int .i64 ax, .int .i64 ay], .agg [.int .i64 bx, .int .i64 bY], .agg [.int .i64 px, .int .i64 py]] noHeap 0 outK =
      .leaf (.int .i64 (IntKind.i64.wrap (IntKind.i64.wrap (IntKind.i64.wrap (bx - ax) * IntKind.i64.wrap (py - ay)) - IntKind.i64.wrap (IntKind.i64.wrap (px - ax) * IntKind.i64.wrap (bY - ay))))) := by kernel_rfl
    have b := two_bd (x := bx - ax) (y := py - ay) (u := px - ax) (v := bY - ay) (by omega) (by omega) (by omega) (by omega)
    rw [e, wrap_id (n := bx - ax) (by omega) (by omega), wrap_id (n := py - ay) (by omega) (by omega), wrap_id (n := px - ax) (by omega) (by omega), wrap_id (n := bY - ay) (by omega) (by omega), wrap_id (n := (bx - ax) * (py - ay)) (by omega) (by omega), wrap_id (n := (px - ax) * (bY - ay)) (by omega) (by omega), wrap_id (n := (bx - ax) * (py - ay) - (px - ax) * (bY - ay)) (by omega) (by omega)]
    exact sat_leaf rfl
  · simp at h
def pl_lies : List (Nat × PureT) := [(48, g_left), (35, g_square), (49, g_times), (50, g_compare), (34, g_cmpI), (25, g_outside)]
theorem pu_lies : PuOk Try.prog pl_lies := puOk_cons is_left.plain p_left (puOk_cons is_square.plain p_square (puOk_cons is_times.plain p_times (puOk_cons is_compare.plain p_compare (puOk_cons is_cmpI.plain p_cmpI pu1))))
theorem sq_alg (ax ay bx bY px py : Int) : sq bx bY px py = sq ax ay px py + sq ax ay bx bY - 2 * alg ax ay bx bY px py := by unfold sq alg; grind
theorem mul_abs (n : Int) : max n (-n) * max n (-n) = n * n := by
  rcases Int.le_total 0 n with h | h
  · rw [show max n (-n) = n by omega]
  · rw [show max n (-n) = -n by omega, Int.neg_mul_neg]
def lsOk (ax ay bx bY px py r : Int) : Bool := fpt ax ay && (fpt bx bY && (fpt px py && !outB r 0 8388608))
def g_lies : PureT
  | [.agg [.int .i64 ax, .int .i64 ay], .agg [.int .i64 bx, .int .i64 bY], .agg [.int .i64 px, .int .i64 py], .int .i64 r] => some (lsOk ax ay bx bY px py r, .int .i64 (LsV ax ay bx bY px py r))
  | _ => none
theorem p_lies : PureOk Try.prog 26 g_lies := by
  refine pureOk_of_ev (ctx_ok mixed pu_lies (fns_cons is_lies fns_nil)) 3 fun xs x hw h => ?_
  unfold g_lies at h
  split at h
  · rename_i ax ay bx bY px py r
    simp only [Option.some.injEq, Prod.mk.injEq] at h
    obtain ⟨hok, rfl⟩ := h
    simp only [lsOk, Bool.and_eq_true, Bool.not_eq_true'] at hok
    obtain ⟨k1, k2, k3, k4⟩ := hok
    have c1 := fpt_bd k1
    have c2 := fpt_bd k2
    have c3 := fpt_bd k3
    have c4 := out_false k4
    refine ⟨rfl, ?_⟩
    have e : evFn (ctx Try.prog pl_lies [(26, Try.f26)]) 3 26 [.agg [.int .i64 ax, .int .i64 ay], .agg [.int .i64 bx, .int .i64 bY], .agg [.int .i64 px, .int .i64 py], .int .i64 r] noHeap 0 outK =
      let al := IntKind.i64.wrap (IntKind.i64.wrap (IntKind.i64.wrap (bx - ax) * IntKind.i64.wrap (px - ax)) + IntKind.i64.wrap (IntKind.i64.wrap (bY - ay) * IntKind.i64.wrap (py - ay)))
      let m := max (lft ax ay bx bY px py) (IntKind.i64.wrap (0 - lft ax ay bx bY px py))
      let rr := IntKind.i64.wrap (r * r)
      bif fpt ax ay && fpt bx bY then
        bif decide (al ≤ 0) then bif fpt ax ay && fpt px py then bif fpt bx bY && fpt px py then .leaf (.int .i64 (min (sq ax ay px py) (sq bx bY px py) - rr).sign) else .fail else .fail
        else bif decide (al ≥ sq ax ay bx bY) then bif fpt ax ay && fpt px py then bif fpt bx bY && fpt px py then .leaf (.int .i64 (min (sq ax ay px py) (sq bx bY px py) - rr).sign) else .fail else .fail
        else bif fpt ax ay && (fpt bx bY && fpt px py) then bif decide (0 ≤ m ∧ 0 ≤ m) then bif decide (0 ≤ rr ∧ 0 ≤ sq ax ay bx bY) then
          .leaf (.int .i64 (18446744073709551616 * (m * m / 18446744073709551616) + m * m % 18446744073709551616 - (18446744073709551616 * (rr * sq ax ay bx bY / 18446744073709551616) + rr * sq ax ay bx bY % 18446744073709551616)).sign)
        else .fail else .fail else .fail
      else .fail := by kernel_rfl
    rw [e]
    dsimp only
    have b := two_bd (x := bx - ax) (y := px - ax) (u := bY - ay) (v := py - ay) (by omega) (by omega) (by omega) (by omega)
    have bl := two_bd (x := bx - ax) (y := py - ay) (u := px - ax) (v := bY - ay) (by omega) (by omega) (by omega) (by omega)
    have hl : lft ax ay bx bY px py = (bx - ax) * (py - ay) - (px - ax) * (bY - ay) := rfl
    have ha : alg ax ay bx bY px py = (bx - ax) * (px - ax) + (bY - ay) * (py - ay) := rfl
    have br := mul_bd (a := r) (b := r) (A := 8388608) (B := 8388608) (by omega) (by omega) (by omega) (by omega)
    have rn := self_nn r
    have sb := sq_bd k1 k2
    have hs := sq_alg ax ay bx bY px py
    rw [wrap_id (n := bx - ax) (by omega) (by omega), wrap_id (n := px - ax) (by omega) (by omega), wrap_id (n := bY - ay) (by omega) (by omega), wrap_id (n := py - ay) (by omega) (by omega), wrap_id (n := (bx - ax) * (px - ax)) (by omega) (by omega), wrap_id (n := (bY - ay) * (py - ay)) (by omega) (by omega),
      wrap_id (n := (bx - ax) * (px - ax) + (bY - ay) * (py - ay)) (by omega) (by omega), ← ha, wrap_id (n := r * r) (by omega) (by omega), wrap_id (n := 0 - lft ax ay bx bY px py) (by omega) (by omega), Int.zero_sub, mul_abs, Int.mul_ediv_add_emod, Int.mul_ediv_add_emod, k1, k2, k3]
    unfold LsV
    refine sat_cond (fun _ => sat_cond (fun q => ?_) (fun q => sat_cond (fun q2 => ?_) (fun q2 => sat_cond (fun _ => sat_cond (fun _ => sat_cond (fun _ => ?_) (fun q3 => ?_)) (fun q3 => ?_)) (fun q3 => by simp at q3)))) (fun q => by simp at q)
    · have q' := of_decide_eq_true q
      rw [q, show min (sq ax ay px py) (sq bx bY px py) = sq ax ay px py by omega]
      exact sat_leaf rfl
    · have q2' := of_decide_eq_true q2
      rw [q, decide_eq_true (show sq ax ay bx bY ≤ alg ax ay bx bY px py from q2'), show min (sq ax ay px py) (sq bx bY px py) = sq bx bY px py by omega]
      exact sat_leaf rfl
    · have q2' := of_decide_eq_false q2
      rw [q, decide_eq_false (show ¬ sq ax ay bx bY ≤ alg ax ay bx bY px py from q2')]
      exact sat_leaf rfl
    · have := of_decide_eq_false q3; omega
    · have := of_decide_eq_false q3; omega
  · simp at h
end Go.Proofs.Ytialgmhhkbdegaa
