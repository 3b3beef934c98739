/- Chapter 11: places: insertion sort, as it is sorted. -/
import Derived.Test.YtgchccljmjmibaaGeg
namespace Go.Proofs.Ytgchccljmjmibaa
open Go.RowKit
namespace V
namespace Ev
instance inhRow : Inhabited Row := ⟨dflt cRow⟩
/-- a row comes before another one -/
def ltV (z : BAm) (a b : Row) : Bool := befV z.2.1 z.2.2 z.1 a b
theorem cmp_lt (z : BAm) (a b : Row) : decide (cmpV z.2.1 z.2.2 z.1 a b < 0) = ltV z a b := by
  unfold cmpV ltV
  cases befV z.2.1 z.2.2 z.1 a b with
  | true => rfl
  | false => cases befV z.2.1 z.2.2 z.1 b a <;> rfl
theorem gR_arr (A : Array Row) (i : Nat) (h : i < A.size) : gR A.toList i = A[i]! := by
  show getA A.toList (Int.toNat (i : Int)) (dflt cRow) = _
  rw [show Int.toNat (i : Int) = i by omega, getA_lt (by simpa using h)]
  simp [h]
theorem set_arr (A : Array Row) (i : Nat) (x : Row) : setA A.toList (Int.toNat (i : Int)) x = (A.setIfInBounds i x).toList := by
  rw [show Int.toNat (i : Int) = i by omega, setA_eq]
  simp
theorem inO_in {β : Type} {n : Nat} {i : Nat} {t : Tree β} (h : i < n) : inO n (i : Int) t = t := by
  unfold inO
  rw [decide_eq_true (show 0 ≤ (i : Int) ∧ (i : Int) < (n : Int) by omega), decide_eq_true (show Int.toNat (i : Int) < n by omega)]
  rfl
theorem swT_run {β : Type} (A : Array Row) (i j : Nat) (hi : i < A.size) (hj : j < A.size) (K : Rows → Tree β) : swT A.toList i j K = K (Go.Sort.swp A i j).toList := by
  unfold swT
  have hl : A.toList.length = A.size := by simp
  rw [inO_in (by rw [hl]; exact hj), inO_in (by rw [hl]; exact hi), inO_in (by rw [hl]; exact hi), inO_in (by rw [setA_length, hl]; exact hj), gR_arr A i hi, gR_arr A j hj, set_arr, set_arr]
  rfl
theorem cpT_run {β : Type} (z : BAm) (hz : (z.1.length : Int) ≤ 100) (A : Array Row) (i j : Nat) (hi : i < A.size) (hj : j < A.size) (K : Bool → Tree β) : cpT z A.toList i j K = K (ltV z A[i]! A[j]!) := by
  unfold cpT lnO
  have hl : A.toList.length = A.size := by simp
  rw [inO_in (by rw [hl]; exact hi), inO_in (by rw [hl]; exact hj), decide_eq_true hz, cond_true, cmp_lt, gR_arr A i hi, gR_arr A j hj]
theorem swp_size (A : Array Row) (i j : Nat) : (Go.Sort.swp A i j).size = A.size := by unfold Go.Sort.swp; simp
theorem W64_pred (j : Nat) (h : j + 1 ≤ 1000) : W64 (((j + 1 : Nat) : Int) - 1) = (j : Int) := by
  rw [W64_id (by omega) (by omega)]
  omega
/-- the inner loop -/
theorem i1_run (z : BAm) (hz : (z.1.length : Int) ≤ 100) (a : Nat) (b i : Int) : ∀ (j : Nat) (A : Array Row) (n : Nat), j < A.size → A.size ≤ 1000 → j + 1 ≤ n →
    iter st_i1 n (hd_i1 z a b i A.toList j) = some (ex_i1 z a b i (Go.Sort.insInner (ltV z) a j A).toList)
  | 0, A, n + 1, _, _, _ => by
    refine iter_out ?_
    show (sm_i1 z a b i A.toList ((0 : Nat) : Int)).run = _
    unfold sm_i1
    rw [decide_eq_false (show ¬ (((0 : Nat) : Int) > (a : Int)) by omega)]
    rfl
  | j + 1, A, n + 1, hj, hA, hn => by
    have hs : st_i1 (hd_i1 z a b i A.toList ((j + 1 : Nat) : Int)) = bif decide (j + 1 > a) then (bif ltV z A[j + 1]! A[j]! then .leaf (.inl (hd_i1 z a b i (Go.Sort.swp A (j + 1) j).toList j)) else .leaf (.inr (ex_i1 z a b i A.toList))) else .leaf (.inr (ex_i1 z a b i A.toList)) := by
      show sm_i1 z a b i A.toList ((j + 1 : Nat) : Int) = _
      unfold sm_i1
      rw [W64_pred j (by omega), cpT_run z hz A (j + 1) j hj (by omega), swT_run A (j + 1) j hj (by omega)]
      rw [show decide (((j + 1 : Nat) : Int) > (a : Int)) = decide (j + 1 > a) from decide_eq_decide.2 (by omega)]
    unfold Go.Sort.insInner
    cases ha : decide (j + 1 > a) with
    | false =>
      rw [iter_out (e := ex_i1 z a b i A.toList) (by rw [hs, ha]; rfl)]
      simp
    | true =>
      cases hl : ltV z A[j + 1]! A[j]! with
      | false =>
        rw [iter_out (e := ex_i1 z a b i A.toList) (by rw [hs, ha, hl]; rfl)]
        simp
      | true =>
        rw [iter_in (g' := hd_i1 z a b i (Go.Sort.swp A (j + 1) j).toList j) (by rw [hs, ha, hl]; rfl)]
        rw [i1_run z hz a b i j (Go.Sort.swp A (j + 1) j) n (by rw [swp_size]; omega) (by rw [swp_size]; omega) (by omega)]
        simp
theorem insInner_size (lt : Row → Row → Bool) (a : Nat) : ∀ (j : Nat) (A : Array Row), (Go.Sort.insInner lt a j A).size = A.size
  | 0, A => rfl
  | j + 1, A => by
    unfold Go.Sort.insInner
    split
    · rw [insInner_size lt a j, swp_size]
    · rfl
/-- the outer loop -/
theorem i0_run (z : BAm) (hz : (z.1.length : Int) ≤ 100) (a b : Nat) : ∀ (k i : Nat) (A : Array Row) (n : Nat), b - i = k → b ≤ A.size → A.size ≤ 1000 → k + 1 ≤ n →
    iter st_i0 n (hd_i0 z a b A.toList i) = some (ex_i0 z (Go.Sort.insOuter (ltV z) a b i A).toList)
  | k, i, A, n + 1, hk, hb, hA, hn => by
    rw [Go.Sort.insOuter]
    by_cases hi : i < b
    · rw [if_pos hi]
      match k, hk with
      | 0, hk => omega
      | k + 1, hk =>
        rw [iter_in (g' := hd_i0 z a b (Go.Sort.insInner (ltV z) a i A).toList ((i + 1 : Nat) : Int)) (by
          show (sm_i0 z a b A.toList i).run = _
          unfold sm_i0
          rw [decide_eq_true (show (i : Int) < (b : Int) by omega), i1_run z hz a b i i A _ (by omega) hA (by omega)]
          show some (Sum.inl (hd_i0 z a b (Go.Sort.insInner (ltV z) a i A).toList (W64 ((i : Int) + 1)))) = _
          rw [W64_id (n := (i : Int) + 1) (by omega) (by omega)]
          rfl)]
        exact i0_run z hz a b k (i + 1) _ n (by omega) (by rw [insInner_size]; exact hb) (by rw [insInner_size]; exact hA) (by omega)
    · rw [if_neg hi]
      refine iter_out ?_
      show (sm_i0 z a b A.toList i).run = _
      unfold sm_i0
      rw [decide_eq_false (show ¬ (i : Int) < (b : Int) by omega)]
      rfl
end Ev
end V
end Go.Proofs.Ytgchccljmjmibaa
/-! Chapter 11: places: partition: loops. -/
namespace Go.Proofs.Ytgchccljmjmibaa
open Go.RowKit
namespace V
namespace Ev
theorem is_ipart : FnIs Try.prog (114, Try.f114) := ⟨Try.func114, by kernel_rfl, by kernel_rfl⟩
noncomputable def lb_pt (k : Nat) : Code := (loopsOf (bodyOf Try.f114)).getD k .skip
abbrev ks_pt : List SK := [kDat, .d cI, kCmp, .d cI, .d cI]
abbrev GPt := SKTs ks_pt × BTs bs_so
def L_p0 : Lay := { keys := [0, 1, 4, 12, 13], ks := ks_pt, bs := bs_so, n := 178, nx := 4000, marks := [] }
def L_p1 : Lay := { keys := [0, 1, 4, 12, 13], ks := ks_pt, bs := bs_so, n := 178, nx := 5000, marks := [] }
def L_p2 : Lay := { keys := [0, 1, 4, 12, 13], ks := ks_pt, bs := bs_so, n := 178, nx := 6000, marks := [] }
def L_p3 : Lay := { keys := [0, 1, 4, 12, 13], ks := ks_pt, bs := bs_so, n := 178, nx := 7000, marks := [] }
def L_p4 : Lay := { keys := [0, 1, 4, 12, 13], ks := ks_pt, bs := bs_so, n := 178, nx := 8000, marks := [] }
def R_p2 : Lay := { keys := [0, 1, 13], ks := [kDat, .d cI, .d cI], bs := bs_so, n := 178, nx := 6000, marks := [] }
def E_p0 : XE → Lay := fun _ => L_p0
def E_p1 : XE → Lay := fun _ => L_p1
def E_p2 : XE → Lay := fun _ => R_p2
def E_p3 : XE → Lay := fun _ => L_p3
def E_p4 : XE → Lay := fun _ => L_p4
def hd_pt (z : BAm) (a : Int) (d : Rows) (i j : Int) : GPt := ((d, a, ((), ((), ())), i, j, ()), bsO z)
def ex_p0 (g : GPt) : Left' E_p0 := ⟨.exit 0, g⟩
def ex_p1 (g : GPt) : Left' E_p1 := ⟨.exit 2, g⟩
def ex_p3 (g : GPt) : Left' E_p3 := ⟨.exit 6, g⟩
def ex_p4 (g : GPt) : Left' E_p4 := ⟨.exit 8, g⟩
section
variable {E : Type} (ex : GPt → E) (z : BAm) (a : Int) (d : Rows) (i j : Int)
def sm_up : Tree (GPt ⊕ E) := bif decide (i ≤ j) then cpT z d i a fun c => bif c then .leaf (.inl (hd_pt z a d (W64 (i + 1)) j)) else .leaf (.inr (ex (hd_pt z a d i j))) else .leaf (.inr (ex (hd_pt z a d i j)))
def sm_dn : Tree (GPt ⊕ E) := bif decide (i ≤ j) then cpT z d j a fun c => bif !c then .leaf (.inl (hd_pt z a d i (W64 (j - 1)))) else .leaf (.inr (ex (hd_pt z a d i j))) else .leaf (.inr (ex (hd_pt z a d i j)))
end
def st_up {E : Type} (ex : GPt → E) (g : GPt) : Tree (GPt ⊕ E) := sm_up ex (zO g.2) g.1.2.1 g.1.1 g.1.2.2.2.1 g.1.2.2.2.2.1
def st_dn {E : Type} (ex : GPt → E) (g : GPt) : Tree (GPt ⊕ E) := sm_dn ex (zO g.2) g.1.2.1 g.1.1 g.1.2.2.2.1 g.1.2.2.2.2.1
def fu_pt (g : GPt) : Nat := (g.1.2.2.2.2.1 + 1 - g.1.2.2.2.1 : Int).toNat + 1
theorem e_p0 (g : L_p0.T) : evC Try.prog (evFn XSo 6) XSo.pures 114 XSo.u (fun _ => none) (lb_pt 0) (L_p0.of g) (stepOut L_p0 E_p0) = st_up ex_p0 g := by kernel_rfl
theorem e_p1 (g : L_p1.T) : evC Try.prog (evFn XSo 6) XSo.pures 114 XSo.u (fun _ => none) (lb_pt 1) (L_p1.of g) (stepOut L_p1 E_p1) = st_dn ex_p1 g := by kernel_rfl
theorem e_p3 (g : L_p3.T) : evC Try.prog (evFn XSo 6) XSo.pures 114 XSo.u (fun _ => none) (lb_pt 3) (L_p3.of g) (stepOut L_p3 E_p3) = st_up ex_p3 g := by kernel_rfl
theorem e_p4 (g : L_p4.T) : evC Try.prog (evFn XSo 6) XSo.pures 114 XSo.u (fun _ => none) (lb_pt 4) (L_p4.of g) (stepOut L_p4 E_p4) = st_dn ex_p4 g := by kernel_rfl
abbrev nPt : Nat := 114
noncomputable def s_p0 : St → Tree (XE × St) := loopSum L_p0 E_p0 (finX [.exit 0] (st_up ex_p0) fu_pt)
noncomputable def s_p1 : St → Tree (XE × St) := loopSum L_p1 E_p1 (finX [.exit 2] (st_dn ex_p1) fu_pt)
noncomputable def s_p3 : St → Tree (XE × St) := loopSum L_p3 E_p3 (finX [.exit 6] (st_up ex_p3) fu_pt)
noncomputable def s_p4 : St → Tree (XE × St) := loopSum L_p4 E_p4 (finX [.exit 8] (st_dn ex_p4) fu_pt)
theorem l_p0 : LoopOk Try.prog nPt (lb_pt 0) s_p0 := loopOk_x0 XSo_ok 6 _ L_p0 E_p0 (fun _ => Nat.le_refl _) [.exit 0] (st_up ex_p0) fu_pt e_p0
theorem l_p1 : LoopOk Try.prog nPt (lb_pt 1) s_p1 := loopOk_x0 XSo_ok 6 _ L_p1 E_p1 (fun _ => Nat.le_refl _) [.exit 2] (st_dn ex_p1) fu_pt e_p1
theorem l_p3 : LoopOk Try.prog nPt (lb_pt 3) s_p3 := loopOk_x0 XSo_ok 6 _ L_p3 E_p3 (fun _ => Nat.le_refl _) [.exit 6] (st_up ex_p3) fu_pt e_p3
theorem l_p4 : LoopOk Try.prog nPt (lb_pt 4) s_p4 := loopOk_x0 XSo_ok 6 _ L_p4 E_p4 (fun _ => Nat.le_refl _) [.exit 8] (st_dn ex_p4) fu_pt e_p4
noncomputable def Lt_p2 : LoopT := assoc2 [((nPt, 13), s_p3), ((nPt, 15), s_p4)] nPt
abbrev cP2 := GPt ⊕ Left' E_p2
def ex_p2 (z : BAm) (a : Int) (d : Rows) (j : Int) : Left' E_p2 := ⟨.exit 4, ((d, a, j, ()), bsO z)⟩
def fi_p2 (z : BAm) (a : Int) (d : Rows) (i j : Int) : Tree cP2 := bif decide (i > j) then .leaf (.inr (ex_p2 z a d j)) else swT d i j fun d => .leaf (.inl (hd_pt z a d (W64 (i + 1)) (W64 (j - 1))))
def fj_p2 (g : GPt) : Tree cP2 := fi_p2 (zO g.2) g.1.2.1 g.1.1 g.1.2.2.2.1 g.1.2.2.2.2.1
def dn_p2 (g : GPt) : Tree cP2 := bif isE (.exit 8) (iter (st_dn ex_p4) (fu_pt g) g) then fj_p2 (valE (E := E_p4) (.exit 8) (iter (st_dn ex_p4) (fu_pt g) g)) else .fail
def st_p2 (g : GPt) : Tree cP2 := bif isE (.exit 6) (iter (st_up ex_p3) (fu_pt g) g) then dn_p2 (valE (E := E_p3) (.exit 6) (iter (st_up ex_p3) (fu_pt g) g)) else .fail
theorem e_p2 (g : L_p2.T) : evC Try.prog (evFn XSo 6) XSo.pures nPt XSo.u Lt_p2 (lb_pt 2) (L_p2.of g) (stepOut L_p2 E_p2) = st_p2 g := by kernel_rfl
theorem loops_p2 : loopsOf (lb_pt 2) = [lb_pt 3, lb_pt 4] := by kernel_rfl
theorem key_p3 : keyOf (lb_pt 3) = 13 := by kernel_rfl
theorem key_p4 : keyOf (lb_pt 4) = 15 := by kernel_rfl
noncomputable def s_p2 : St → Tree (XE × St) := loopSum L_p2 E_p2 (finX [.exit 4] st_p2 fu_pt)
theorem l_p2 : LoopOk Try.prog nPt (lb_pt 2) s_p2 := loopOk_x XSo_ok 6 _ Lt_p2 (fun d hd f hf => by
  rw [loops_p2] at hd
  rcases List.mem_cons.1 hd with rfl | hd
  · rw [key_p3] at hf
    cases hf
    exact l_p3
  · rw [List.mem_singleton] at hd
    subst hd
    rw [key_p4] at hf
    cases hf
    exact l_p4) L_p2 E_p2 (fun _ => Nat.le_refl _) [.exit 4] st_p2 fu_pt e_p2
end Ev
end V
end Go.Proofs.Ytgchccljmjmibaa
/-! Chapter 11: places: partition: what its loops do. -/
namespace Go.Proofs.Ytgchccljmjmibaa
open Go.RowKit
namespace V
namespace Ev
open Go.Sort (scanUp scanDown partLoop swp)
section
variable {E : Type} (ex : GPt → E) (z : BAm) (hz : (z.1.length : Int) ≤ 100) (a : Nat)
include hz
theorem up_run (A : Array Row) (ha : a < A.size) (hA : A.size ≤ 1000) (j : Nat) (hj : j < A.size) : ∀ (k i n : Nat), j + 1 - i = k → i ≤ 1000 → k + 1 ≤ n →
    iter (st_up ex) n (hd_pt z a A.toList i j) = some (ex (hd_pt z a A.toList (scanUp (fun x => ltV z x A[a]!) A j i : Nat) j))
  | k, i, n + 1, hk, hi, hn => by
    have hs : st_up ex (hd_pt z a A.toList i j) = sm_up ex z a A.toList i j := rfl
    rw [scanUp]
    by_cases hij : i ≤ j
    · have hs2 : sm_up ex z a A.toList i j = bif ltV z A[i]! A[a]! then .leaf (.inl (hd_pt z a A.toList (W64 ((i : Int) + 1)) j)) else .leaf (.inr (ex (hd_pt z a A.toList i j))) := by
        unfold sm_up
        rw [decide_eq_true (show (i : Int) ≤ (j : Int) by omega), cond_true, cpT_run z hz A i a (by omega) ha]
      cases hl : ltV z A[i]! A[a]! with
      | false =>
        rw [if_neg (by simp)]
        exact iter_out (by rw [hs, hs2, hl]; rfl)
      | true =>
        rw [if_pos (by simp [hij])]
        rw [iter_in (g' := hd_pt z a A.toList ((i + 1 : Nat) : Int) j) (by rw [hs, hs2, hl, W64_id (n := (i : Int) + 1) (by omega) (by omega)]; rfl)]
        exact up_run A ha hA j hj (k - 1) (i + 1) n (by omega) (by omega) (by omega)
    · rw [if_neg (by simp [hij])]
      refine iter_out ?_
      rw [hs]
      unfold sm_up
      rw [decide_eq_false (show ¬ (i : Int) ≤ (j : Int) by omega)]
      rfl
theorem dn_run (A : Array Row) (ha : a < A.size) (hA : A.size ≤ 1000) (i : Nat) (hi : 1 ≤ i) : ∀ (j n : Nat), j < A.size → j + 1 - i + 1 ≤ n →
    iter (st_dn ex) n (hd_pt z a A.toList i j) = some (ex (hd_pt z a A.toList i (scanDown (fun x => !ltV z x A[a]!) A i j : Nat)))
  | 0, n + 1, hj, hn => by
    refine iter_out ?_
    show (sm_dn ex z a A.toList i ((0 : Nat) : Int)).run = _
    unfold sm_dn
    rw [decide_eq_false (show ¬ (i : Int) ≤ ((0 : Nat) : Int) by omega)]
    rfl
  | j + 1, n + 1, hj, hn => by
    have hs : st_dn ex (hd_pt z a A.toList i ((j + 1 : Nat) : Int)) = sm_dn ex z a A.toList i ((j + 1 : Nat) : Int) := rfl
    rw [scanDown]
    by_cases hij : i ≤ j + 1
    · have hs2 : sm_dn ex z a A.toList i ((j + 1 : Nat) : Int) = bif !ltV z A[j + 1]! A[a]! then .leaf (.inl (hd_pt z a A.toList i (W64 (((j + 1 : Nat) : Int) - 1)))) else .leaf (.inr (ex (hd_pt z a A.toList i ((j + 1 : Nat) : Int)))) := by
        unfold sm_dn
        rw [decide_eq_true (show (i : Int) ≤ ((j + 1 : Nat) : Int) by omega), cond_true, cpT_run z hz A (j + 1) a hj ha]
      cases hl : ltV z A[j + 1]! A[a]! with
      | true =>
        rw [if_neg (by simp)]
        exact iter_out (by rw [hs, hs2, hl]; rfl)
      | false =>
        rw [if_pos (by simp [hij])]
        rw [iter_in (g' := hd_pt z a A.toList i j) (by rw [hs, hs2, hl, W64_pred j (by omega)]; rfl)]
        exact dn_run A ha hA i hi j n (by omega) (by omega)
    · rw [if_neg (by simp [hij])]
      refine iter_out ?_
      rw [hs]
      unfold sm_dn
      rw [decide_eq_false (show ¬ (i : Int) ≤ ((j + 1 : Nat) : Int) by omega)]
      rfl
end
/-- where both scans stop -/
theorem two_scans (lt : Row → Row → Bool) (A : Array Row) (a i j : Nat) (hi : 1 ≤ i) (hij : i ≤ j + 1) :
    i ≤ scanUp (fun x => lt x A[a]!) A j i ∧ scanUp (fun x => lt x A[a]!) A j i ≤ j + 1 ∧ scanDown (fun x => !lt x A[a]!) A (scanUp (fun x => lt x A[a]!) A j i) j ≤ j ∧ scanUp (fun x => lt x A[a]!) A j i ≤ scanDown (fun x => !lt x A[a]!) A (scanUp (fun x => lt x A[a]!) A j i) j + 1 ∧
    (¬ scanUp (fun x => lt x A[a]!) A j i > scanDown (fun x => !lt x A[a]!) A (scanUp (fun x => lt x A[a]!) A j i) j → scanUp (fun x => lt x A[a]!) A j i < scanDown (fun x => !lt x A[a]!) A (scanUp (fun x => lt x A[a]!) A j i) j) := by
  obtain ⟨h1, h2, h3, h4, _, _, h7⟩ := Go.Sort.round_facts (fun x => lt x A[a]!) (fun x => !lt x A[a]!) (fun _ => rfl) A (i - 1) 0 i j (by omega) hij (fun t h1 h2 => by omega) (fun t h1 h2 => by omega)
  exact ⟨h1, h2, h3, h4, fun h => (h7 h).2.2⟩
theorem fu_hd (z : BAm) (a : Int) (d : Rows) (i j : Nat) : fu_pt (hd_pt z a d i j) = j + 1 - i + 1 := by
  show ((j : Int) + 1 - i).toNat + 1 = _
  omega
theorem p2_run (z : BAm) (hz : (z.1.length : Int) ≤ 100) (a : Nat) : ∀ (k i j n : Nat) (A : Array Row), j + 1 - i ≤ k → a < i → i ≤ j + 1 → j < A.size → A.size ≤ 1000 → k + 1 ≤ n →
    iter st_p2 n (hd_pt z a A.toList i j) = some (ex_p2 z a (partLoop (ltV z) a i j A).2.toList (partLoop (ltV z) a i j A).1)
  | k, i, j, n + 1, A, hk, hai, hij, hj, hA, hn => by
    rw [Go.Sort.partLoop_eq]
    obtain ⟨h1, h2, h3, h4, h5⟩ := two_scans (ltV z) A a i j (by omega) hij
    have r1 := up_run ex_p3 z hz a A (by omega) hA j hj (j + 1 - i) i (j + 1 - i + 1) rfl (by omega) (Nat.le_refl _)
    generalize scanUp (fun x => ltV z x A[a]!) A j i = u at h1 h2 h3 h4 h5 r1 ⊢
    have r2 := dn_run ex_p4 z hz a A (by omega) hA u (by omega) j (j + 1 - u + 1) hj (Nat.le_refl _)
    generalize scanDown (fun x => !ltV z x A[a]!) A u j = v at h3 h4 h5 r2 ⊢
    have hs : st_p2 (hd_pt z a A.toList i j) = fi_p2 z a A.toList u v := by
      unfold st_p2
      rw [fu_hd, r1]
      show dn_p2 (hd_pt z a A.toList u j) = _
      unfold dn_p2
      rw [fu_hd, r2]
      rfl
    by_cases huv : u > v
    · rw [if_pos huv]
      refine iter_out ?_
      rw [hs]
      unfold fi_p2
      rw [decide_eq_true (show (u : Int) > (v : Int) by omega)]
      rfl
    · rw [if_neg huv]
      have h6 := h5 huv
      match v, h6 with
      | v + 1, h6 =>
        have hs2 : (fi_p2 z a A.toList u ((v + 1 : Nat) : Int)).run = some (.inl (hd_pt z a (swp A u (v + 1)).toList ((u + 1 : Nat) : Int) v)) := by
          unfold fi_p2
          rw [decide_eq_false (show ¬ (u : Int) > ((v + 1 : Nat) : Int) by omega), cond_false, swT_run A u (v + 1) (by omega) (by omega), W64_pred v (by omega), W64_id (n := (u : Int) + 1) (by omega) (by omega)]
          rfl
        rw [iter_in (by rw [hs]; exact hs2)]
        have hsz : (swp A u (v + 1)).size = A.size := swp_size _ _ _
        exact p2_run z hz a (k - 1) (u + 1) v n (swp A u (v + 1)) (by omega) (by omega) (by omega) (by omega) (by omega) (by omega)
end Ev
end V
end Go.Proofs.Ytgchccljmjmibaa
