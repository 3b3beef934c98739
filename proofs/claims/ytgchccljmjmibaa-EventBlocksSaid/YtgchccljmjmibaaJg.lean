/- Chapter 11: places, in the reference: wins among those with as many wins. -/
import Derived.Test.YtgchccljmjmibaaJeg
namespace Go.Proofs.Ytgchccljmjmibaa
open Go.RowKit
namespace V
namespace Ev
theorem is_ramong : FnIs Try.prog (105, Try.f105) := ⟨Try.func105, by kernel_rfl, by kernel_rfl⟩
abbrev nRa : Nat := 105
noncomputable def lb_ra : Code := (loopsOf (bodyOf Try.f105)).getD 0 .skip
def L_ra : Lay := { keys := [0, 1, 2, 3, 9, 10], ks := [.d cI, .d (.sl cSc), .d (.sl cRow), .d cI, .d cI, .d cI], bs := [], n := 60, nx := 1000, marks := [] }
def R_ra : Lay := { keys := [9], ks := [.d cI], bs := [], n := 60, nx := 1000, marks := [] }
def E_ra : XE → Lay := fun _ => R_ra
abbrev cRa := L_ra.T ⊕ Left' E_ra
def hd_ra (n : Int) (l : LSh) (t : Rows) (a w b : Int) : L_ra.T := ((n, l, t, a, w, b, ()), ())
def ex_ra (w : Int) : Left' E_ra := ⟨.exit 0, ((w, ()), ())⟩
def ke_ra (n : Int) (l : LSh) (t : Rows) (a b w : Int) : Tree cRa := .leaf (.inl (hd_ra n l t a w (W64 (b + 1))))
def gm_ra (n : Int) (l : LSh) (t : Rows) (a w b : Int) (s : Option (TCT cSc)) : Tree cRa := bif s.isSome then (bif ((or0 s).2.2.1 == 0) == decide (a < b) then ke_ra n l t a b (W64 (w + 1)) else ke_ra n l t a b w) else ke_ra n l t a b w
def sm_ra (n : Int) (l : LSh) (t : Rows) (a w b : Int) : Tree cRa := bif decide (b < n) then (bif a == b then ke_ra n l t a b w else inN t.length a (inN t.length b (bif (gR t a).2.2.1 != (gR t b).2.2.1 then ke_ra n l t a b w else bif okN n (min a b) (max a b) then gm_ra n l t a w b (cntM l (numW n (min a b) (max a b))) else .fail))) else .leaf (.inr (ex_ra w))
def st_ra (g : L_ra.T) : Tree cRa := sm_ra g.1.1 g.1.2.1 g.1.2.2.1 g.1.2.2.2.1 g.1.2.2.2.2.1 g.1.2.2.2.2.2.1
def fu_ra (g : L_ra.T) : Nat := (g.1.2.2.1 : Rows).length + 1
theorem e_ra (g : L_ra.T) : evC Try.prog (evFn XRt0 6) XRt0.pures nRa XRt0.u (fun _ => none) lb_ra (L_ra.of g) (stepOut L_ra E_ra) = st_ra g := by kernel_rfl
/-- the rows of all players, in order -/
def okRows (n : Int) (t : Rows) : Bool := decide (t.length = n.toNat) && (List.range n.toNat).all fun i => (gR t i).1 == (i : Int)
theorem okRows_iff {n : Int} {t : Rows} (h : okRows n t = true) : t.length = n.toNat ∧ ∀ i : Nat, i < n.toNat → ((gR t i).1 : Int) = i := by
  unfold okRows at h
  simp only [Bool.and_eq_true, List.all_eq_true, beq_iff_eq, List.mem_range] at h
  exact ⟨of_decide_eq_true h.1, h.2⟩
theorem min_num (n a b : Int) : numW n (min a b) (max a b) = numW n a b := by
  rcases Int.le_total a b with h | h
  · rw [Int.min_eq_left h, Int.max_eq_right h]
  · rw [Int.min_eq_right h, Int.max_eq_left h, numW_symm]
theorem decide_ok (n : Int) (a b : Nat) (h : a ≠ b) (ha : (a : Int) < n) (hb : (b : Int) < n) (hn : n ≤ 16) (h2 : 2 ≤ n) : okN n (min (a : Int) (b : Int)) (max (a : Int) (b : Int)) = true := decide_eq_true (by omega)
theorem ra_run (n : Int) (l : LSh) (t : Rows) (a : Nat) (hn : n ≤ 16) (h2 : 2 ≤ n) (ht : okRows n t = true) (ha : (a : Int) < n) : iter st_ra (t.length + 1) (hd_ra n l t a 0 0) = some (ex_ra (amV n (cntM l) t (gR t a))) := by
  obtain ⟨hl, hp⟩ := okRows_iff ht
  refine iter_foldl (st := st_ra) t (fun i w => hd_ra n l t a w i) (fun (w : Int) o => bif amB n (cntM l) (gR t a) o then w + 1 else w) ex_ra (fun i w => 0 ≤ w ∧ w ≤ i) (fun i w hi hv => ?_) (fun w _ => ?_) 0 ⟨Int.le_refl _, Int.le_refl _⟩
  · have he : t[i] = gR t i := by unfold gR; rw [show Int.toNat (i : Int) = i by omega, getA_lt hi]
    rw [he]
    constructor
    · show (sm_ra n l t a w i).run = _
      have hw : W64 ((i : Int) + 1) = ((i + 1 : Nat) : Int) := by rw [W64_id (by omega) (by omega)]; omega
      have hw1 : W64 (w + 1) = w + 1 := W64_id (by omega) (by omega)
      unfold sm_ra ke_ra amB
      rw [decide_eq_true (show (i : Int) < n by omega), cond_true, hw, hp i (by omega), hp a (by omega)]
      by_cases hai : (a : Int) = (i : Int)
      · rw [show ((a : Int) == (i : Int)) = true by simpa using hai, show ((i : Int) == (a : Int)) = true by simpa using hai.symm]
        rfl
      · rw [show ((a : Int) == (i : Int)) = false by simpa using hai, show ((i : Int) == (a : Int)) = false by simpa using fun h => hai h.symm, cond_false, inN_ok (by omega), inN_ok (by omega)]
        simp only [Bool.not_false, Bool.true_and]
        by_cases hwi : ((gR t a).2.2.1 : Int) = (gR t i).2.2.1
        · rw [show ((gR t a).2.2.1 != (gR t i).2.2.1) = false by simpa [bne] using hwi, show ((gR t i).2.2.1 == (gR t a).2.2.1) = true by simpa using hwi.symm, cond_false, decide_ok n a i (by omega) (by omega) (by omega) hn h2, min_num, cond_true, Bool.true_and]
          unfold gm_ra ke_ra wonB
          rw [hw]
          cases cntM l (numW n a i) with
          | none => rfl
          | some s =>
            simp only [Option.isSome_some, cond_true, Bool.true_and]
            rw [hw1]
            cases ((or0 (some s)).2.2.1 == 0) == decide ((a : Int) < (i : Int)) <;> rfl
        · rw [show ((gR t a).2.2.1 != (gR t i).2.2.1) = true by simpa [bne] using hwi, show ((gR t i).2.2.1 == (gR t a).2.2.1) = false by simpa using fun h => hwi h.symm]
          rfl
    · cases amB n (cntM l) (gR t a) (gR t i)
      · exact ⟨hv.1, by simp only [cond_false]; omega⟩
      · simp only [cond_true]; omega
  · show (sm_ra n l t a w t.length).run = _
    unfold sm_ra
    rw [decide_eq_false (show ¬ (t.length : Int) < n by omega)]
    rfl
def okA (n : Int) (t : Rows) (a : Int) : Bool := decide (2 ≤ n ∧ n ≤ 16 ∧ 0 ≤ a ∧ a < n) && okRows n t
abbrev s_ra : PureT := spec [cI, .sl cSc, .sl cRow, cI] [cI] (fun x => okA x.1 x.2.2.1 x.2.2.2.1) (fun x => (amV x.1 (cntM x.2.1) x.2.2.1 (gR x.2.2.1 x.2.2.2.1), ()))
noncomputable def X_ra : Ctx := ctxL Try.prog plRt [(105, Try.f105)] [((nRa, 3), loopSum L_ra E_ra (finX [.exit 0] st_ra fu_ra))]
theorem X_ra_ok : CtxOk X_ra := ctxL_ok mixed puRt (fns_cons is_ramong fns_nil) (loops_one (lb := lb_ra) (k := 3) (by kernel_rfl) (by kernel_rfl) (loopOk_x0 XRt0_ok 6 _ L_ra E_ra (fun _ => Nat.le_refl _) [.exit 0] _ fu_ra e_ra))
abbrev TRa := Tree (TCTs [cI])
def T_ra (y : Option (Left' E_ra)) : TRa := bif isE (.exit 0) y then .leaf ((valE (E := E_ra) (.exit 0) y).1.1, ()) else .fail
theorem T_ra_ok (n : Int) (l : LSh) (t : Rows) (a : Int) (h : okA n t a = true) : (T_ra (iter st_ra (t.length + 1) (hd_ra n l t a 0 0))).sat (fun y => y = (amV n (cntM l) t (gR t a), ())) := by
  unfold okA at h
  simp only [Bool.and_eq_true, decide_eq_true_eq] at h
  have := ra_run n l t a.toNat h.1.2.1 h.1.1 h.2 (by omega)
  rw [show ((a.toNat : Nat) : Int) = a by omega] at this
  rw [this]
  exact rfl
theorem q_ramong : PureOk Try.prog nRa s_ra := q_by X_ra_ok 6 (fun x => T_ra (iter st_ra ((x.2.2.1 : Rows).length + 1) (hd_ra x.1 x.2.1 x.2.2.1 x.2.2.2.1 0 0))) (fun x => by kernel_rfl) fun x h _ => T_ra_ok x.1 x.2.1 x.2.2.1 x.2.2.2.1 h
end Ev
end V
end Go.Proofs.Ytgchccljmjmibaa
