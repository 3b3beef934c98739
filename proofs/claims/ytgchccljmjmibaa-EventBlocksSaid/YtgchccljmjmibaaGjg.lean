/- Chapter 11: places: a run in order; patterns: loops. -/
import Derived.Test.YtgchccljmjmibaaGgg
namespace Go.Proofs.Ytgchccljmjmibaa
open Go.RowKit
namespace V
namespace Ev
theorem is_ipis : FnIs Try.prog (112, Try.f112) := ⟨Try.func112, by kernel_rfl, by kernel_rfl⟩
theorem is_ibp : FnIs Try.prog (109, Try.f109) := ⟨Try.func109, by kernel_rfl, by kernel_rfl⟩
theorem is_ixs : FnIs Try.prog (117, Try.f117) := ⟨Try.func117, by kernel_rfl, by kernel_rfl⟩
theorem is_inp2 : FnIs Try.prog (116, Try.f116) := ⟨Try.func116, by kernel_rfl, by kernel_rfl⟩
noncomputable def XS0 : Ctx := { XSo with u := 0 }
theorem XS0_ok : CtxOk XS0 := ⟨XSo_ok.mix, XSo_ok.pures, XSo_ok.fns, XSo_ok.specs⟩
abbrev nPi : Nat := 112
abbrev nBp : Nat := 109
noncomputable def lb_pi (k : Nat) : Code := (loopsOf (bodyOf Try.f112)).getD k .skip
noncomputable def lb_bp : Code := (loopsOf (bodyOf Try.f109)).getD 0 .skip
abbrev ks_pi : List SK := [kDat, .d cI, .d cI, kCmp, .d cI, .d cI]
abbrev GPi := SKTs ks_pi × BTs bs_so
def L_q1 : Lay := { keys := [0, 1, 2, 3, 9, 10], ks := ks_pi, bs := bs_so, n := 141, nx := 3500, marks := [] }
def E_q1 : XE → Lay := fun _ => L_q1
def L_q0 : Lay := { keys := [0, 1, 2, 3, 9, 10], ks := ks_pi, bs := bs_so, n := 141, nx := 3000, marks := [] }
def R_q0 : Lay := { keys := [0, 8], ks := [kDat, .d .b], bs := bs_so, n := 141, nx := 3000, marks := [] }
def E_q0 : XE → Lay := fun _ => R_q0
def hd_pi (z : BAm) (a b : Int) (d : Rows) (i j : Int) : GPi := ((d, a, b, ((), ((), ())), i, j, ()), bsO z)
abbrev cU : TC := .i .u64
noncomputable def XBp : Ctx := ctxU 4 Try.prog [] [(117, Try.f117)]
theorem XBp_ok : CtxOk XBp := ctxU_ok (u := 4) mixed puOk_nil (fns_cons is_ixs fns_nil)
def L_bp : Lay := { keys := [0, 1, 8, 9, 10, 11], ks := [kDat, .d cI, .d cI, .p 1000 0 0 0, .d cU, .d cI], bs := (1000, 161, [.d cU]) :: bs_so, n := 67, nx := 2000, marks := [] }
def R_bp : Lay := { keys := [0], ks := [kDat], bs := bs_so, n := 67, nx := 2000, marks := [] }
def E_bp : XE → Lay := fun _ => R_bp
def hd_bp (z : BAm) (a len : Int) (mo : Int) (d : Rows) (r : Int) (idx : Int) : L_bp.T := ((d, a, len, (), mo, idx, ()), ((r, ()), bsO z))
/-! patterns -/
def xo64 (x y : Int) : Int := IntKind.wrap .u64 ↑(BitVec.toNat (BitVec.ofInt (IntKind.bits .u64) x ^^^ BitVec.ofInt (IntKind.bits .u64) y))
def xsL (k : Int) (r : Int) : Int := xo64 r (IntKind.wrap .u64 (r * 2 ^ min (Int.toNat k) (IntKind.bits .u64)))
def xsR (r : Int) : Int := xo64 r (Int.fdiv r (2 ^ min (Int.toNat 7) (IntKind.bits .u64)))
def xsN (r : Int) : Int := xsL 17 (xsR (xsL 13 r))
def anU (r mo : Int) : Int := W64 (IntKind.wrap .u64 ↑(BitVec.toNat (BitVec.ofInt (IntKind.bits .u64) (xsN r) &&& BitVec.ofInt (IntKind.bits .u64) (IntKind.wrap .u64 (mo - 1)))))
abbrev cBp := L_bp.T ⊕ Left' E_bp
def ex_bp (z : BAm) (d : Rows) : Left' E_bp := ⟨.exit 0, ((d, ()), bsO z)⟩
def ot_bp (z : BAm) (a len mo : Int) (d : Rows) (r idx o : Int) : Tree cBp := swT d idx (W64 (a + o)) fun d => .leaf (.inl (hd_bp z a len mo d (xsN r) (W64 (idx + 1))))
def sm_bp (z : BAm) (a len mo : Int) (d : Rows) (r idx : Int) : Tree cBp := bif decide (idx ≤ W64 (W64 (a + W64 (W64 (Int.tdiv len 4) * 2)) + 1)) then (bif decide (anU r mo ≥ len) then ot_bp z a len mo d r idx (W64 (anU r mo - len)) else ot_bp z a len mo d r idx (anU r mo)) else .leaf (.inr (ex_bp z d))
def st_bp (g : L_bp.T) : Tree cBp := sm_bp (zO g.2.2) g.1.2.1 g.1.2.2.1 g.1.2.2.2.2.1 g.1.1 g.2.1.1 g.1.2.2.2.2.2.1
theorem e_bp (g : L_bp.T) : evC Try.prog (evFn XBp 6) XBp.pures nBp XBp.u (fun _ => none) lb_bp (L_bp.of g) (stepOut L_bp E_bp) = st_bp g := by kernel_rfl
noncomputable def s_bp : St → Tree (XE × St) := loopSum L_bp E_bp (finX [.exit 0] st_bp (fun _ => 4))
theorem l_bp : LoopOk Try.prog nBp lb_bp s_bp := loopOk_x0 XBp_ok 6 _ L_bp E_bp (fun _ => Nat.le_refl _) [.exit 0] st_bp (fun _ => 4) e_bp
/-! a run in order -/
def ex_q1 (g : GPi) : Left' E_q1 := ⟨.exit 2, g⟩
def sm_q1 (z : BAm) (a b : Int) (d : Rows) (i j : Int) : Tree (GPi ⊕ Left' E_q1) := bif decide (i < b) then cpT z d i (W64 (i - 1)) fun c => bif !c then .leaf (.inl (hd_pi z a b d (W64 (i + 1)) j)) else .leaf (.inr (ex_q1 (hd_pi z a b d i j))) else .leaf (.inr (ex_q1 (hd_pi z a b d i j)))
def st_q1 (g : GPi) : Tree (GPi ⊕ Left' E_q1) := sm_q1 (zO g.2) g.1.2.1 g.1.2.2.1 g.1.1 g.1.2.2.2.2.1 g.1.2.2.2.2.2.1
def fu_q1 (g : GPi) : Nat := (g.1.2.2.1 - g.1.2.2.2.2.1 : Int).toNat + 1
theorem e_q1 (g : L_q1.T) : evC Try.prog (evFn XSo 6) XSo.pures nPi XSo.u (fun _ => none) (lb_pi 1) (L_q1.of g) (stepOut L_q1 E_q1) = st_q1 g := by kernel_rfl
noncomputable def s_q1 : St → Tree (XE × St) := loopSum L_q1 E_q1 (finX [.exit 2] st_q1 fu_q1)
theorem l_q1 : LoopOk Try.prog nPi (lb_pi 1) s_q1 := loopOk_x0 XSo_ok 6 _ L_q1 E_q1 (fun _ => Nat.le_refl _) [.exit 2] st_q1 fu_q1 e_q1
noncomputable def Lt_q0 : LoopT := assoc2 [((nPi, 5), s_q1)] nPi
abbrev cQ0 := GPi ⊕ Left' E_q0
def rt_q0 (z : BAm) (d : Rows) (c : Bool) : Left' E_q0 := ⟨.ret, ((d, c, ()), bsO z)⟩
def re_q0 (z : BAm) (a b : Int) (d : Rows) (i j : Int) : Tree cQ0 := swT d i (W64 (i - 1)) fun d => bif decide (W64 (i - a) ≥ 2) then .fail else bif decide (W64 (b - i) ≥ 2) then .fail else .leaf (.inl (hd_pi z a b d i (W64 (j + 1))))
def fi_q0 (z : BAm) (a b : Int) (d : Rows) (i j : Int) : Tree cQ0 := bif i == b then .leaf (.inr (rt_q0 z d true)) else bif decide (W64 (b - a) < 50) then .leaf (.inr (rt_q0 z d false)) else re_q0 z a b d i j
def fj_q0 (g : GPi) : Tree cQ0 := fi_q0 (zO g.2) g.1.2.1 g.1.2.2.1 g.1.1 g.1.2.2.2.2.1 g.1.2.2.2.2.2.1
def st_q0 (g : L_q0.T) : Tree cQ0 := bif decide ((g.1.2.2.2.2.2.1 : Int) < 5) then (bif isE (.exit 2) (iter st_q1 (fu_q1 g) g) then fj_q0 (valE (E := E_q1) (.exit 2) (iter st_q1 (fu_q1 g) g)) else .fail) else .fail
theorem e_q0 (g : L_q0.T) : evC Try.prog (evFn XS0 6) XS0.pures nPi XS0.u Lt_q0 (lb_pi 0) (L_q0.of g) (stepOut L_q0 E_q0) = st_q0 g := by kernel_rfl
noncomputable def s_q0 : St → Tree (XE × St) := loopSum L_q0 E_q0 (finX [.ret] st_q0 (fun _ => 1))
theorem loops_q0 : loopsOf (lb_pi 0) = [lb_pi 1, lb_pi 2, lb_pi 3] := by kernel_rfl
theorem key_q1 : keyOf (lb_pi 1) = 5 := by kernel_rfl
theorem key_q2 : keyOf (lb_pi 2) = 14 := by kernel_rfl
theorem key_q3 : keyOf (lb_pi 3) = 20 := by kernel_rfl
theorem l_q0 : LoopOk Try.prog nPi (lb_pi 0) s_q0 := loopOk_x XS0_ok 6 _ Lt_q0 (fun d hd f hf => by
  rw [loops_q0] at hd
  rcases List.mem_cons.1 hd with rfl | hd
  · rw [key_q1] at hf
    cases hf
    exact l_q1
  rcases List.mem_cons.1 hd with rfl | hd
  · rw [key_q2] at hf
    cases hf
  · rw [List.mem_singleton] at hd
    subst hd
    rw [key_q3] at hf
    cases hf) L_q0 E_q0 (fun _ => Nat.le_refl _) [.ret] st_q0 (fun _ => 1) e_q0
end Ev
end V
end Go.Proofs.Ytgchccljmjmibaa
/-! Chapter 11: places: a run in order; patterns: what the loops do. -/
namespace Go.Proofs.Ytgchccljmjmibaa
open Go.RowKit
namespace V
namespace Ev
open Go.Sort (scanSorted swp PermIn)
theorem q1_run (z : BAm) (hz : (z.1.length : Int) ≤ 100) (a : Int) (b : Nat) (j : Int) (A : Array Row) (hb : b ≤ A.size) (hA : A.size ≤ 1000) : ∀ (k i n : Nat), b - i = k → 1 ≤ i → i ≤ 1000 → k + 1 ≤ n →
    iter st_q1 n (hd_pi z a b A.toList i j) = some (ex_q1 (hd_pi z a b A.toList (scanSorted (ltV z) A b i : Nat) j))
  | k, i, n + 1, hk, h1, hi, hn => by
    have hs : st_q1 (hd_pi z a b A.toList i j) = sm_q1 z a b A.toList i j := rfl
    rw [scanSorted]
    by_cases hib : i < b
    · have hs2 : sm_q1 z a b A.toList i j = bif !ltV z A[i]! A[i - 1]! then .leaf (.inl (hd_pi z a b A.toList (W64 ((i : Int) + 1)) j)) else .leaf (.inr (ex_q1 (hd_pi z a b A.toList i j))) := by
        unfold sm_q1
        rw [decide_eq_true (show (i : Int) < (b : Int) by omega), cond_true, show W64 ((i : Int) - 1) = ((i - 1 : Nat) : Int) by rw [W64_id (by omega) (by omega)]; omega, cpT_run z hz A i (i - 1) (by omega) (by omega)]
      cases hl : ltV z A[i]! A[i - 1]! with
      | true =>
        rw [if_neg (by simp)]
        exact iter_out (by rw [hs, hs2, hl]; rfl)
      | false =>
        rw [if_pos (by simp [hib])]
        rw [iter_in (g' := hd_pi z a b A.toList ((i + 1 : Nat) : Int) j) (by rw [hs, hs2, hl, W64_id (n := (i : Int) + 1) (by omega) (by omega)]; rfl)]
        exact q1_run z hz a b j A hb hA (k - 1) (i + 1) n (by omega) (by omega) (by omega) (by omega)
    · rw [if_neg (by simp [hib])]
      refine iter_out ?_
      rw [hs]
      unfold sm_q1
      rw [decide_eq_false (show ¬ (i : Int) < (b : Int) by omega)]
      rfl
theorem scanSorted_in (lt : Row → Row → Bool) (A : Array Row) (b : Nat) : ∀ (k i : Nat), b - i = k → i ≤ b → i ≤ scanSorted lt A b i ∧ scanSorted lt A b i ≤ b
  | k, i, hk, hi => by
    rw [scanSorted]
    split
    · rename_i h
      have h2 : i < b := by simp only [Bool.and_eq_true, decide_eq_true_eq] at h; exact h.1
      have := scanSorted_in lt A b (k - 1) (i + 1) (by omega) (by omega)
      exact ⟨by omega, this.2⟩
    · exact ⟨Nat.le_refl _, hi⟩
theorem q0_run (z : BAm) (hz : (z.1.length : Int) ≤ 100) (a b : Nat) (A : Array Row) (hab : a < b) (hb : b ≤ A.size) (hA : A.size ≤ 49) :
    iter st_q0 1 (hd_pi z a b A.toList ((a + 1 : Nat) : Int) 0) = some (rt_q0 z A.toList (decide (scanSorted (ltV z) A b (a + 1) = b))) := by
  refine iter_out ?_
  have hf : fu_q1 (hd_pi z a b A.toList ((a + 1 : Nat) : Int) 0) = b - (a + 1) + 1 := by
    show ((b : Int) - ((a + 1 : Nat) : Int)).toNat + 1 = _
    omega
  have r := q1_run z hz a b 0 A hb (by omega) (b - (a + 1)) (a + 1) (b - (a + 1) + 1) rfl (by omega) (by omega) (Nat.le_refl _)
  have hin := scanSorted_in (ltV z) A b _ (a + 1) rfl (by omega)
  generalize scanSorted (ltV z) A b (a + 1) = u at r hin ⊢
  have hs : st_q0 (hd_pi z a b A.toList ((a + 1 : Nat) : Int) 0) = fi_q0 z a b A.toList u 0 := by
    show (bif decide ((0 : Int) < 5) then (bif isE (.exit 2) (iter st_q1 (fu_q1 (hd_pi z a b A.toList ((a + 1 : Nat) : Int) 0)) (hd_pi z a b A.toList ((a + 1 : Nat) : Int) 0)) then fj_q0 (valE (E := E_q1) (.exit 2) (iter st_q1 (fu_q1 (hd_pi z a b A.toList ((a + 1 : Nat) : Int) 0)) (hd_pi z a b A.toList ((a + 1 : Nat) : Int) 0))) else .fail) else .fail) = _
    rw [hf, r]
    rfl
  rw [hs]
  unfold fi_q0
  by_cases h : u = b
  · rw [show ((u : Int) == (b : Int)) = true by rw [h]; exact beq_self_eq_true _, decide_eq_true h]
    rfl
  · rw [show ((u : Int) == (b : Int)) = false by rw [beq_eq_false_iff_ne]; omega, decide_eq_false h, W64_id (n := (b : Int) - (a : Int)) (by omega) (by omega), decide_eq_true (show (b : Int) - (a : Int) < 50 by omega)]
    rfl
theorem pis_eq (lt : Row → Row → Bool) (A : Array Row) (a b : Nat) (h : b - a < 50) : Go.Sort.partialInsertionSort lt A a b = (A, decide (scanSorted lt A b (a + 1) = b)) := by
  unfold Go.Sort.partialInsertionSort Go.Sort.partialIns
  by_cases h2 : scanSorted lt A b (a + 1) = b
  · simp [h2]
  · simp [h2, h]
/-! patterns -/
theorem anU_in (r : Int) (k : Nat) (hk : k ≤ 1000) : ∃ o : Nat, o ≤ k ∧ anU r ((k : Int) + 1) = (o : Int) := by
  refine ⟨(BitVec.ofInt 64 (xsN r) &&& BitVec.ofInt 64 (IntKind.wrap .u64 ((k : Int) + 1 - 1))).toNat, ?_, ?_⟩
  · rw [BitVec.toNat_and]
    refine Nat.le_trans Nat.and_le_right ?_
    rw [wrapU (n := (k : Int) + 1 - 1) (by omega) (by omega), BitVec.toNat_ofInt]
    omega
  · have hb : (BitVec.ofInt 64 (xsN r) &&& BitVec.ofInt 64 (IntKind.wrap .u64 ((k : Int) + 1 - 1))).toNat ≤ k := by
      rw [BitVec.toNat_and]
      refine Nat.le_trans Nat.and_le_right ?_
      rw [wrapU (n := (k : Int) + 1 - 1) (by omega) (by omega), BitVec.toNat_ofInt]
      omega
    show W64 (IntKind.wrap .u64 (((BitVec.ofInt 64 (xsN r) &&& BitVec.ofInt 64 (IntKind.wrap .u64 ((k : Int) + 1 - 1))).toNat : Nat) : Int)) = _
    generalize (BitVec.ofInt 64 (xsN r) &&& BitVec.ofInt 64 (IntKind.wrap .u64 ((k : Int) + 1 - 1))).toNat = o at hb ⊢
    rw [wrapU (n := (o : Int)) (by omega) (by omega), W64_id (by omega) (by omega)]
theorem bp_one (z : BAm) (a L k : Nat) (A : Array Row) (r : Int) (idx : Nat) (hL : 4 ≤ L) (hk2 : k + 1 ≤ 2 * L) (hA : a + L ≤ A.size) (hs : A.size ≤ 100) (hi : idx ≤ a + L / 4 * 2 + 1) (hi2 : idx < A.size) :
    ∃ o : Nat, o < L ∧ (st_bp (hd_bp z a L ((k : Int) + 1) A.toList r idx)).run = some (.inl (hd_bp z a L ((k : Int) + 1) (swp A idx (a + o)).toList (xsN r) ((idx + 1 : Nat) : Int))) := by
  obtain ⟨o, ho, he⟩ := anU_in r k (by omega)
  have hs1 : st_bp (hd_bp z a L ((k : Int) + 1) A.toList r idx) = sm_bp z a L ((k : Int) + 1) A.toList r idx := rfl
  have hc : decide ((idx : Int) ≤ W64 (W64 ((a : Int) + W64 (W64 (Int.tdiv (L : Int) 4) * 2)) + 1)) = true := by
    rw [Int.tdiv_eq_ediv_of_nonneg (by omega), W64_id (n := (L : Int) / 4) (by omega) (by omega), W64_id (n := (L : Int) / 4 * 2) (by omega) (by omega), W64_id (n := (a : Int) + (L : Int) / 4 * 2) (by omega) (by omega), W64_id (by omega) (by omega)]
    exact decide_eq_true (by omega)
  have ht : ∀ p : Nat, p < L → (ot_bp z a L ((k : Int) + 1) A.toList r idx (p : Int)).run = some (.inl (hd_bp z a L ((k : Int) + 1) (swp A idx (a + p)).toList (xsN r) ((idx + 1 : Nat) : Int))) := by
    intro p hp
    unfold ot_bp
    rw [W64_id (n := (a : Int) + (p : Int)) (by omega) (by omega), show (a : Int) + (p : Int) = ((a + p : Nat) : Int) by omega, swT_run A idx (a + p) hi2 (by omega), W64_id (n := (idx : Int) + 1) (by omega) (by omega)]
    rfl
  rw [hs1]
  unfold sm_bp
  rw [hc, he, cond_true]
  by_cases h : o ≥ L
  · refine ⟨o - L, by omega, ?_⟩
    rw [decide_eq_true (show (o : Int) ≥ (L : Int) by omega), cond_true, W64_id (n := (o : Int) - (L : Int)) (by omega) (by omega), show (o : Int) - (L : Int) = ((o - L : Nat) : Int) by omega]
    exact ht _ (by omega)
  · refine ⟨o, by omega, ?_⟩
    rw [decide_eq_false (show ¬ (o : Int) ≥ (L : Int) by omega), cond_false]
    exact ht _ (by omega)
theorem bp_end (z : BAm) (a L : Nat) (mo : Int) (A : Array Row) (r : Int) (i : Nat) (ha : a ≤ 1000) (hL : L ≤ 1000) (hi : i = a + L / 4 * 2 + 2) : iter st_bp 1 (hd_bp z a L mo A.toList r (i : Int)) = some (ex_bp z A.toList) := by
  refine iter_out ?_
  have hc : decide ((i : Int) ≤ W64 (W64 ((a : Int) + W64 (W64 (Int.tdiv (L : Int) 4) * 2)) + 1)) = false := by
    rw [Int.tdiv_eq_ediv_of_nonneg (by omega), W64_id (n := (L : Int) / 4) (by omega) (by omega), W64_id (n := (L : Int) / 4 * 2) (by omega) (by omega), W64_id (n := (a : Int) + (L : Int) / 4 * 2) (by omega) (by omega), W64_id (by omega) (by omega)]
    exact decide_eq_false (by omega)
  show (sm_bp z a L mo A.toList r (i : Int)).run = _
  unfold sm_bp
  rw [hc]
  rfl
theorem bp_run (z : BAm) (a L k : Nat) (A : Array Row) (r : Int) (hL : 8 ≤ L) (hk2 : k + 1 ≤ 2 * L) (hA : a + L ≤ A.size) (hs : A.size ≤ 100) :
    ∃ B : Array Row, PermIn a (a + L) A B ∧ iter st_bp 4 (hd_bp z a L ((k : Int) + 1) A.toList r ((a + L / 4 * 2 - 1 : Nat) : Int)) = some (ex_bp z B.toList) := by
  have h4 : 2 ≤ L / 4 := by omega
  generalize hi : a + L / 4 * 2 - 1 = i
  have hiL : i + 2 < a + L := by omega
  obtain ⟨o1, p1, q1⟩ := bp_one z a L k A r i (by omega) hk2 hA hs (by omega) (by omega)
  have s1 : (swp A i (a + o1)).size = A.size := swp_size _ _ _
  obtain ⟨o2, p2, q2⟩ := bp_one z a L k (swp A i (a + o1)) (xsN r) (i + 1) (by omega) hk2 (by omega) (by omega) (by omega) (by omega)
  have s2 : (swp (swp A i (a + o1)) (i + 1) (a + o2)).size = A.size := (swp_size _ _ _).trans s1
  obtain ⟨o3, p3, q3⟩ := bp_one z a L k (swp (swp A i (a + o1)) (i + 1) (a + o2)) (xsN (xsN r)) (i + 1 + 1) (by omega) hk2 (by omega) (by omega) (by omega) (by omega)
  refine ⟨swp (swp (swp A i (a + o1)) (i + 1) (a + o2)) (i + 1 + 1) (a + o3), ?_, ?_⟩
  · refine Go.Sort.permIn_trans _ _ _ a (a + L) (Go.Sort.permIn_trans _ _ _ a (a + L) (Go.Sort.swp_permIn A a (a + L) i (a + o1) (by omega) (by omega) (by omega) (by omega) (by omega)) (Go.Sort.swp_permIn _ a (a + L) (i + 1) (a + o2) (by omega) (by omega) (by omega) (by omega) (by omega))) (Go.Sort.swp_permIn _ a (a + L) (i + 1 + 1) (a + o3) (by omega) (by omega) (by omega) (by omega) (by omega))
  · rw [iter_in q1, iter_in q2, iter_in q3]
    exact bp_end z a L _ _ _ _ (by omega) (by omega) (by omega)
end Ev
end V
end Go.Proofs.Ytgchccljmjmibaa
