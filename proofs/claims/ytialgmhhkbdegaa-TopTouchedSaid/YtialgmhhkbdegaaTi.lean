/- Contracts of cmp.Compare, bits.Mul64, turf.times, product.compare, turf.Wide. -/
import Derived.Test.YtialgmhhkbdegaaTA
import Derived.Test.YtialgmhhkbdegaaMA
namespace Go.Proofs.Ytialgmhhkbdegaa
open Go.RowKit Ev
theorem is_cmpU : FnIs Try.prog (82, Try.f82) := ⟨Try.func82, by kernel_rfl, by kernel_rfl⟩
theorem is_nanU : FnIs Try.prog (94, Try.f94) := ⟨Try.func94, by kernel_rfl, by kernel_rfl⟩
theorem is_cmpI : FnIs Try.prog (34, Try.f34) := ⟨Try.func34, by kernel_rfl, by kernel_rfl⟩
theorem is_nanI : FnIs Try.prog (66, Try.f66) := ⟨Try.func66, by kernel_rfl, by kernel_rfl⟩
theorem is_Or : FnIs Try.prog (81, Try.f81) := ⟨Try.func81, by kernel_rfl, by kernel_rfl⟩
theorem is_Mul64 : FnIs Try.prog (80, Try.f80) := ⟨Try.func80, by kernel_rfl, by kernel_rfl⟩
theorem is_times : FnIs Try.prog (49, Try.f49) := ⟨Try.func49, by kernel_rfl, by kernel_rfl⟩
theorem is_compare : FnIs Try.prog (50, Try.f50) := ⟨Try.func50, by kernel_rfl, by kernel_rfl⟩
def t_cmp (a b : Int) : Tree AV :=
  bif a != a then bif b != b then .leaf (.int .i64 0) else .leaf (.int .i64 (-1)) else bif b != b then .leaf (.int .i64 1) else
  bif decide (a < b) then .leaf (.int .i64 (-1)) else bif decide (a > b) then .leaf (.int .i64 1) else .leaf (.int .i64 0)
theorem t_cmp_ok (a b : Int) : (t_cmp a b).sat (fun v => v = .int .i64 (a - b).sign) := by
  unfold t_cmp
  refine sat_cond (fun h => by simp at h) (fun _ => sat_cond (fun h => by simp at h) (fun _ => sat_cond (fun h => ?_) (fun h => sat_cond (fun k => ?_) (fun k => ?_))))
  · refine sat_leaf ?_; rw [sign_lt (of_decide_eq_true h)]
  · refine sat_leaf ?_; rw [sign_gt (of_decide_eq_true k)]
  · have h' := of_decide_eq_false h
    have k' := of_decide_eq_false k
    refine sat_leaf ?_; rw [sign_eq (show a = b by omega)]
def g_cmpU : PureT
  | [.int .u64 a, .int .u64 b] => some (true, .int .i64 (a - b).sign)
  | _ => none
theorem p_cmpU : PureOk Try.prog 82 g_cmpU := by
  refine pureOk_of_ev (ctx_ok mixed puOk_nil (fns_cons is_cmpU (fns_cons is_nanU fns_nil))) 3 fun xs x hw h => ?_
  unfold g_cmpU at h
  split at h
  · rename_i a b
    simp only [Option.some.injEq, Prod.mk.injEq, true_and] at h
    subst h
    refine ⟨rfl, ?_⟩
    have e : evFn (ctx Try.prog [] [(82, Try.f82), (94, Try.f94)]) 3 82 [.int .u64 a, .int .u64 b] noHeap 0 outK = t_cmp a b := by kernel_rfl
    rw [e]
    exact t_cmp_ok a b
  · simp at h
def g_cmpI : PureT
  | [.int .i64 a, .int .i64 b] => some (true, .int .i64 (a - b).sign)
  | _ => none
theorem p_cmpI : PureOk Try.prog 34 g_cmpI := by
  refine pureOk_of_ev (ctx_ok mixed puOk_nil (fns_cons is_cmpI (fns_cons is_nanI fns_nil))) 3 fun xs x hw h => ?_
  unfold g_cmpI at h
  split at h
  · rename_i a b
    simp only [Option.some.injEq, Prod.mk.injEq, true_and] at h
    subst h
    refine ⟨rfl, ?_⟩
    have e : evFn (ctx Try.prog [] [(34, Try.f34), (66, Try.f66)]) 3 34 [.int .i64 a, .int .i64 b] noHeap 0 outK = t_cmp a b := by kernel_rfl
    rw [e]
    exact t_cmp_ok a b
  · simp at h

/-! Mul64 -/
theorem uwrap_id {n : Int} (h1 : 0 ≤ n) (h2 : n ≤ 18446744073709551615) : IntKind.u64.wrap n = n := by
  unfold IntKind.wrap; simp [IntKind.bits, IntKind.signed]; omega
def lo32 (n : Int) : Int := IntKind.u64.wrap ((BitVec.ofInt IntKind.u64.bits n &&& BitVec.ofInt IntKind.u64.bits 4294967295).toNat : Int)
theorem lo32_eq {n : Int} (h1 : 0 ≤ n) (h2 : n ≤ 18446744073709551615) : lo32 n = n % 4294967296 := by
  obtain ⟨m, rfl⟩ := Int.eq_ofNat_of_zero_le h1
  unfold lo32
  have e1 : (BitVec.ofInt IntKind.u64.bits (m : Int)).toNat = m := by
    show (BitVec.ofInt 64 (m : Int)).toNat = m
    rw [BitVec.toNat_ofInt]; omega
  have e2 : (BitVec.ofInt IntKind.u64.bits 4294967295).toNat = 2 ^ 32 - 1 := by decide
  rw [BitVec.toNat_and, e1, e2, Nat.and_two_pow_sub_one_eq_mod]
  rw [uwrap_id (by omega) (by omega)]
  omega
def hi32 (n : Int) : Int := n.fdiv (2 ^ min (Int.toNat 32) IntKind.u64.bits)
theorem hi32_eq (n : Int) : hi32 n = n / 4294967296 := by
  unfold hi32
  rw [Int.fdiv_eq_ediv_of_nonneg _ (by decide)]
  rfl
def g_Mul64 : PureT
  | [.int .u64 a, .int .u64 b] => some (true, .tup [.int .u64 (a * b / 18446744073709551616), .int .u64 (IntKind.u64.wrap (a * b))])
  | _ => none
theorem p_Mul64 : PureOk Try.prog 80 g_Mul64 := by
  refine pureOk_of_ev (ctx_ok mixed puOk_nil (fns_cons is_Mul64 fns_nil)) 3 fun xs x hw h => ?_
  unfold g_Mul64 at h
  split at h
  · rename_i a b
    simp only [Option.some.injEq, Prod.mk.injEq, true_and] at h
    subst h
    simp only [WFL, WF, and_true] at hw
    obtain ⟨h1, h2⟩ := hw
    have a1 : 0 ≤ a ∧ a ≤ 18446744073709551615 := h1
    have b1 : 0 ≤ b ∧ b ≤ 18446744073709551615 := h2
    refine ⟨rfl, ?_⟩
    have e : evFn (ctx Try.prog [] [(80, Try.f80)]) 3 80 [.int .u64 a, .int .u64 b] noHeap 0 outK =
      let t := IntKind.u64.wrap (IntKind.u64.wrap (hi32 a * lo32 b) + hi32 (IntKind.u64.wrap (lo32 a * lo32 b)))
      let s := IntKind.u64.wrap (lo32 t + IntKind.u64.wrap (lo32 a * hi32 b))
      .leaf (.tup [.int .u64 (IntKind.u64.wrap (IntKind.u64.wrap (IntKind.u64.wrap (hi32 a * hi32 b) + hi32 t) + hi32 s)), .int .u64 (IntKind.u64.wrap (a * b))]) := by kernel_rfl
    rw [e]
    dsimp only
    obtain ⟨m1, ⟨p1, p2, p3, p4, p5, p6, p7, p8⟩, p9, p10⟩ := mul_hi a b a1.1 b1.1 (by omega) (by omega)
    rw [lo32_eq a1.1 a1.2, lo32_eq b1.1 b1.2, hi32_eq a, hi32_eq b, uwrap_id (n := a / 4294967296 * (b % 4294967296)) (by omega) (by omega), uwrap_id (n := a % 4294967296 * (b % 4294967296)) (by omega) (by omega), uwrap_id (n := a % 4294967296 * (b / 4294967296)) (by omega) (by omega), uwrap_id (n := a / 4294967296 * (b / 4294967296)) (by omega) (by omega)]
    rw [hi32_eq (a % 4294967296 * (b % 4294967296))]
    generalize a / 4294967296 * (b % 4294967296) = C at *
    generalize a % 4294967296 * (b % 4294967296) = B at *
    generalize a % 4294967296 * (b / 4294967296) = D at *
    generalize a / 4294967296 * (b / 4294967296) = A at *
    rw [uwrap_id (n := C + B / 4294967296) (by omega) (by omega), lo32_eq (n := C + B / 4294967296) (by omega) (by omega), hi32_eq (C + B / 4294967296), uwrap_id (n := (C + B / 4294967296) % 4294967296 + D) (by omega) (by omega), hi32_eq]
    rw [uwrap_id (n := A + (C + B / 4294967296) / 4294967296) (by omega) (by omega), uwrap_id (n := A + (C + B / 4294967296) / 4294967296 + ((C + B / 4294967296) % 4294967296 + D) / 4294967296) (by omega) (by omega), m1]
    exact sat_leaf rfl
  · simp at h

/-! times, of numbers from 0 on -/
def g_times : PureT
  | [.int .i64 a, .int .i64 b] => some (decide (0 ≤ a ∧ 0 ≤ b), .agg [.int .u64 (a * b / 18446744073709551616), .int .u64 (a * b % 18446744073709551616)])
  | _ => none
theorem p_times : PureOk Try.prog 49 g_times := by
  refine pureOk_of_ev (ctx_ok mixed (puOk_cons is_Mul64.plain p_Mul64 puOk_nil) (fns_cons is_times fns_nil)) 3 fun xs x hw h => ?_
  unfold g_times at h
  split at h
  · rename_i a b
    simp only [Option.some.injEq, Prod.mk.injEq] at h
    obtain ⟨hok, rfl⟩ := h
    obtain ⟨h0, h1⟩ := of_decide_eq_true hok
    simp only [WFL, WF, and_true] at hw
    obtain ⟨k1, k2⟩ := hw
    have a1 : -9223372036854775808 ≤ a ∧ a ≤ 9223372036854775807 := k1
    have b1 : -9223372036854775808 ≤ b ∧ b ≤ 9223372036854775807 := k2
    refine ⟨rfl, ?_⟩
    have e : evFn (ctx Try.prog [(80, g_Mul64)] [(49, Try.f49)]) 3 49 [.int .i64 a, .int .i64 b] noHeap 0 outK =
      .leaf (.agg [.int .u64 (IntKind.u64.wrap a * IntKind.u64.wrap b / 18446744073709551616), .int .u64 (IntKind.u64.wrap (IntKind.u64.wrap a * IntKind.u64.wrap b))]) := by kernel_rfl
    rw [e, uwrap_id (n := a) (by omega) (by omega), uwrap_id (n := b) (by omega) (by omega)]
    have : IntKind.u64.wrap (a * b) = a * b % 18446744073709551616 := by unfold IntKind.wrap; simp [IntKind.bits, IntKind.signed]
    rw [this]
    exact sat_leaf rfl
  · simp at h

/-! compare: two numbers by halves -/
def g_compare : PureT
  | [.agg [.int .u64 a, .int .u64 b], .agg [.int .u64 c, .int .u64 d]] => some (true, .int .i64 ((18446744073709551616 * a + b) - (18446744073709551616 * c + d)).sign)
  | _ => none
theorem p_compare : PureOk Try.prog 50 g_compare := by
  refine pureOk_of_ev (ctx_ok mixed (puOk_cons is_cmpU.plain p_cmpU puOk_nil) (fns_cons is_compare (fns_cons is_Or fns_nil))) 3 fun xs x hw h => ?_
  unfold g_compare at h
  split at h
  · rename_i a b c d
    simp only [Option.some.injEq, Prod.mk.injEq, true_and] at h
    subst h
    simp only [WFL, WF, and_true] at hw
    obtain ⟨⟨k1, k2⟩, k3, k4⟩ := hw
    have a1 : 0 ≤ a ∧ a ≤ 18446744073709551615 := k1
    have b1 : 0 ≤ b ∧ b ≤ 18446744073709551615 := k2
    have c1 : 0 ≤ c ∧ c ≤ 18446744073709551615 := k3
    have d1 : 0 ≤ d ∧ d ≤ 18446744073709551615 := k4
    refine ⟨rfl, ?_⟩
    have e : evFn (ctx Try.prog [(82, g_cmpU)] [(50, Try.f50), (81, Try.f81)]) 3 50 [.agg [.int .u64 a, .int .u64 b], .agg [.int .u64 c, .int .u64 d]] noHeap 0 outK =
      bif a == c && (b == d && true) then .leaf (.int .i64 0) else bif (a - c).sign != 0 then .leaf (.int .i64 (a - c).sign) else bif (b - d).sign != 0 then .leaf (.int .i64 (b - d).sign) else .leaf (.int .i64 0) := by kernel_rfl
    rw [e]
    refine sat_cond (fun h => ?_) (fun h => ?_)
    · rw [Bool.and_true, Bool.and_eq_true] at h
      have e1 : a = c := by simpa using h.1
      have e2 : b = d := by simpa using h.2
      refine sat_leaf ?_
      rw [sign_eq (show 18446744073709551616 * a + b = 18446744073709551616 * c + d by omega)]
    · rcases Int.lt_trichotomy a c with x | x | x
      · rw [sign_lt x, sign_lt (show 18446744073709551616 * a + b < 18446744073709551616 * c + d by omega)]
        exact sat_leaf rfl
      · rw [sign_eq x]
        rcases Int.lt_trichotomy b d with y | y | y
        · rw [sign_lt y, sign_lt (show 18446744073709551616 * a + b < 18446744073709551616 * c + d by omega)]
          exact sat_leaf rfl
        · rw [sign_eq y, sign_eq (show 18446744073709551616 * a + b = 18446744073709551616 * c + d by omega)]
          exact sat_leaf rfl
        · rw [sign_gt y, sign_gt (show 18446744073709551616 * c + d < 18446744073709551616 * a + b by omega)]
          exact sat_leaf rfl
      · rw [sign_gt x, sign_gt (show 18446744073709551616 * c + d < 18446744073709551616 * a + b by omega)]
        exact sat_leaf rfl
  · simp at h
def pl_wide : List (Nat × PureT) := [(49, g_times), (50, g_compare), (34, g_cmpI)]
theorem pu_wide : PuOk Try.prog pl_wide := puOk_cons is_times.plain p_times (puOk_cons is_compare.plain p_compare (puOk_cons is_cmpI.plain p_cmpI puOk_nil))

/-! Wide -/
def wdOk (a b c d : Int) : Bool := !outB a 0 4611686018427387904 && (!outB b 0 4611686018427387904 && (!outB c 0 4611686018427387904 && !outB d 0 4611686018427387904))
def WdR (a b c d : Int) : Int × Int := bif wdOk a b c d then ((a * b - c * d).sign, 0) else (0, 3)
def g_Wide : PureT
  | [.int .i64 a, .int .i64 b, .int .i64 c, .int .i64 d] => some (true, .tup [.int .i64 (WdR a b c d).1, .int .i64 (WdR a b c d).2])
  | _ => none
end Go.Proofs.Ytialgmhhkbdegaa
