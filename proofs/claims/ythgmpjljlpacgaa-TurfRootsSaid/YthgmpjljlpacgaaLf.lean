/- The law TurfRoots: plain part, and its walk by the evaluator. For all arguments the law returns true. -/
import Derived.Test.YthgmpjljlpacgaaTb
import Derived.Test.YthgmpjljlpacgaaTi
import Derived.Test.YthgmpjljlpacgaaTe
import Derived.Test.YthgmpjljlpacgaaEm
namespace Go.Proofs.Ythgmpjljlpacgaa
open Go.RowKit Ev
theorem is_TurfRoots : FnIs Try.prog (8, Try.f8) := ⟨Try.func8, by kernel_rfl, by kernel_rfl⟩
def pl_roots : List (Nat × PureT) := [(23, g_Root), (25, g_Wide), (14, g_fine)]
theorem pu_roots : PuOk Try.prog pl_roots := puOk_cons is_Root.plain p_Root (puOk_cons is_Wide.plain p_Wide (puOk_cons is_fine.plain p_fine puOk_nil))
def end_roots (i j k l e f g h s : Int) : Tree Unit :=
  bif (WdR i j k l).2 == 0 then bif (WdR i j k l).1 == s then bif (WdR e f g h).2 == (WdR h g f e).2 then bif (WdR e f g h).1 == IntKind.i64.wrap (0 - (WdR h g f e).1) then .leaf () else .fail else .fail else .fail else .fail
def t_roots (m i j k l e f g h : Int) : Tree Unit :=
  bif RtE m != 0 then .fail else bif decide (RtV m < 0) then .fail else bif decide (IntKind.i64.wrap (RtV m * RtV m) > m) then .fail else
  bif decide (IntKind.i64.wrap (IntKind.i64.wrap (RtV m + 1) * IntKind.i64.wrap (RtV m + 1)) ≤ m) then .fail else
  bif decide (IntKind.i64.wrap (i * j) > IntKind.i64.wrap (k * l)) then
    bif decide (IntKind.i64.wrap (i * j) < IntKind.i64.wrap (k * l)) then end_roots i j k l e f g h (-1) else end_roots i j k l e f g h 1
  else bif decide (IntKind.i64.wrap (i * j) < IntKind.i64.wrap (k * l)) then end_roots i j k l e f g h (-1) else end_roots i j k l e f g h 0
theorem wdOk_rev (e f g h : Int) : wdOk h g f e = wdOk e f g h := by
  unfold wdOk
  cases outB e 0 4611686018427387904 <;> cases outB f 0 4611686018427387904 <;> cases outB g 0 4611686018427387904 <;> cases outB h 0 4611686018427387904 <;> rfl
theorem sign_bd (x : Int) : -1 ≤ x.sign ∧ x.sign ≤ 1 := by
  rcases Int.lt_trichotomy x 0 with h | h | h
  · rw [Int.sign_eq_neg_one_of_neg h]; omega
  · rw [h]; decide
  · rw [Int.sign_eq_one_of_pos h]; omega
theorem end_ok (i j k l e f g h s : Int) (hi : wdOk i j k l = true) (hs : (i * j - k * l).sign = s) : (end_roots i j k l e f g h s).sat (fun _ => True) := by
  unfold end_roots
  have h1 : WdR i j k l = ((i * j - k * l).sign, 0) := by unfold WdR; rw [hi]; rfl
  have h2 : (WdR e f g h).2 = (WdR h g f e).2 := by
    unfold WdR; rw [wdOk_rev e f g h]; cases wdOk e f g h <;> rfl
  have h3 : (WdR e f g h).1 = IntKind.i64.wrap (0 - (WdR h g f e).1) := by
    unfold WdR; rw [wdOk_rev e f g h]
    cases wdOk e f g h with
    | false => rfl
    | true =>
      simp only [cond_true]
      have b := sign_bd (h * g - f * e)
      rw [wrap_id (by omega) (by omega)]
      have : e * f - g * h = -(h * g - f * e) := by grind
      rw [this, Int.sign_neg]; omega
  rw [h1, hs, h2, h3]
  simp only [beq_self_eq_true, cond_true]
  trivial
theorem roots_law (m i j k l e f g h : Int) (hm0 : 0 ≤ m) (hm : m < 1152921504606846976) (hi : 0 ≤ i ∧ i ≤ 2147483647) (hj : 0 ≤ j ∧ j ≤ 2147483647) (hk : 0 ≤ k ∧ k ≤ 2147483647) (hl : 0 ≤ l ∧ l ≤ 2147483647) :
    (t_roots m i j k l e f g h).sat (fun _ => True) := by
  have hok : rtOk m = true := decide_eq_true (by omega)
  have hE : RtE m = 0 := by unfold RtE; rw [hok]; rfl
  have hV : RtV m = rt m := by unfold RtV; rw [hok]; rfl
  obtain ⟨r1, r2, r3⟩ := rt_spec m hm0
  have hb := rt_max hm0 (by omega)
  have b1 := mul_bd (a := rt m) (b := rt m) (A := 2147483648) (B := 2147483648) (by omega) (by omega) (by omega) (by omega)
  have b2 := mul_bd (a := rt m + 1) (b := rt m + 1) (A := 2147483649) (B := 2147483649) (by omega) (by omega) (by omega) (by omega)
  have b3 := mul_bd (a := i) (b := j) (A := 2147483647) (B := 2147483647) (by omega) (by omega) (by omega) (by omega)
  have b4 := mul_bd (a := k) (b := l) (A := 2147483647) (B := 2147483647) (by omega) (by omega) (by omega) (by omega)
  have hwd : wdOk i j k l = true := by
    unfold wdOk outB
    simp only [Bool.and_eq_true, Bool.not_eq_true', Bool.or_eq_false_iff, decide_eq_false_iff_not]
    omega
  unfold t_roots
  rw [hE, hV, wrap_id (n := rt m * rt m) (by omega) (by omega), wrap_id (n := rt m + 1) (by omega) (by omega), wrap_id (n := (rt m + 1) * (rt m + 1)) (by omega) (by omega), wrap_id (n := i * j) (by omega) (by omega), wrap_id (n := k * l) (by omega) (by omega)]
  refine sat_cond (fun q => by simp at q) (fun _ => sat_cond (fun q => ?_) (fun _ => sat_cond (fun q => ?_) (fun _ => sat_cond (fun q => ?_) (fun _ => sat_cond (fun q => sat_cond (fun q2 => ?_) (fun _ => ?_)) (fun q => sat_cond (fun q2 => ?_) (fun q2 => ?_))))))
  · have := of_decide_eq_true q; omega
  · have := of_decide_eq_true q; omega
  · have := of_decide_eq_true q; omega
  · have := of_decide_eq_true q; have := of_decide_eq_true q2; omega
  · exact end_ok _ _ _ _ _ _ _ _ _ hwd (sign_gt (of_decide_eq_true q))
  · exact end_ok _ _ _ _ _ _ _ _ _ hwd (sign_lt (of_decide_eq_true q2))
  · have := of_decide_eq_false q; have := of_decide_eq_false q2
    exact end_ok _ _ _ _ _ _ _ _ _ hwd (sign_eq (by omega))
def lo60 (n : Int) : Int := IntKind.i64.wrap ((BitVec.ofInt IntKind.i64.bits n &&& BitVec.ofInt IntKind.i64.bits 1152921504606846975).toNat : Int)
theorem lo60_bd (n : Int) : 0 ≤ lo60 n ∧ lo60 n < 1152921504606846976 := by
  unfold lo60
  have e2 : (BitVec.ofInt IntKind.i64.bits 1152921504606846975).toNat = 1152921504606846975 := by decide
  have h : (BitVec.ofInt IntKind.i64.bits n &&& BitVec.ofInt IntKind.i64.bits 1152921504606846975).toNat ≤ 1152921504606846975 := by
    rw [BitVec.toNat_and, e2]; exact Nat.and_le_right
  rw [wrap_id (by omega) (by omega)]; omega
def half (n : Int) : Int := (IntKind.i64.wrap n).fdiv (2 ^ min (Int.toNat 1) IntKind.i64.bits)
theorem half_bd {n : Int} (h : inK .u32 n) : 0 ≤ half n ∧ half n ≤ 2147483647 := by
  have h' : 0 ≤ n ∧ n ≤ 4294967295 := h
  unfold half
  rw [wrap_id (n := n) (by omega) (by omega), Int.fdiv_eq_ediv_of_nonneg _ (by decide)]
  have : (2 : Int) ^ min (Int.toNat 1) IntKind.i64.bits = 2 := by decide
  rw [this]; omega
theorem roots_walk (n a b c d e f g h : Int) (hn : inK .i64 n) (ha : inK .u32 a) (hb : inK .u32 b) (hc : inK .u32 c) (hd : inK .u32 d) (he : inK .i64 e) (hf : inK .i64 f) (hg : inK .i64 g) (hh : inK .i64 h) (w : World) :
    Calls Try.prog 8 #[.int .i64 n, .int .u32 a, .int .u32 b, .int .u32 c, .int .u32 d, .int .i64 e, .int .i64 f, .int .i64 g, .int .i64 h] w fun e w' => e = .returned (.bool true) ∧ Below w.heap.size w w' := by
  have ev : evFn (ctx Try.prog pl_roots [(8, Try.f8)]) 3 8 [.int .i64 n, .int .u32 a, .int .u32 b, .int .u32 c, .int .u32 d, .int .i64 e, .int .i64 f, .int .i64 g, .int .i64 h] noHeap 0 lawK =
      t_roots (lo60 n) (half a) (half b) (half c) (half d) e f g h := by kernel_rfl
  refine law_calls (xs := [.int .i64 n, .int .u32 a, .int .u32 b, .int .u32 c, .int .u32 d, .int .i64 e, .int .i64 f, .int .i64 g, .int .i64 h]) (us := [.int .i64 n, .int .u32 a, .int .u32 b, .int .u32 c, .int .u32 d, .int .i64 e, .int .i64 f, .int .i64 g, .int .i64 h])
    (ctx_ok mixed pu_roots (fns_cons is_TurfRoots fns_nil)) 3 ?_ ?_
  · simp only [repL_consI, repL_nilI, rep_intI, and_true]
    exact ⟨hn, ha, hb, hc, hd, he, hf, hg, hh⟩
  · rw [ev]
    have hm := lo60_bd n
    exact roots_law _ _ _ _ _ _ _ _ _ hm.1 hm.2 (half_bd ha) (half_bd hb) (half_bd hc) (half_bd hd)
end Go.Proofs.Ythgmpjljlpacgaa
