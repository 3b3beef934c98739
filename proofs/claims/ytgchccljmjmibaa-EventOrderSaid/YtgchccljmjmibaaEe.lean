/- Chapter 11: the reference's check of a draw; its check of sheets. -/
import Derived.Test.YtgchccljmjmibaaEd
namespace Go.Proofs.Ytgchccljmjmibaa
open Go.RowKit
namespace V
namespace Ev
noncomputable def plDq : List (Nat × PureT) := (62, s_find) :: plDr
theorem puDq : PuOk Try.prog plDq := puOk_cons is_rfind.plain q_find puDr
noncomputable def XDq : Ctx := ctx Try.prog plDq []
theorem XDq_ok : CtxOk XDq := ctx_ok mixed puDq fns_nil
noncomputable def lb_rc : Code := (loopsOf (bodyOf Try.f26)).getD 0 .skip
def L_rc : Lay := { keys := [0, 3], ks := [.d (.sl cI), .d cI], bs := [], n := 69, nx := 1000, marks := [] }
def R_rc : Lay := { keys := [], ks := [], bs := [], n := 69, nx := 1000, marks := [] }
def Rt_rc : Lay := { keys := [2], ks := [.d cI], bs := [], n := 69, nx := 1000, marks := [] }
def E_rc : XE → Lay := fun e => match e with | .ret => Rt_rc | _ => R_rc
abbrev cRc := L_rc.T ⊕ Left' E_rc
def rt_rc : Left' E_rc := ⟨.ret, ((2, ()), ())⟩
def ex_rc : Left' E_rc := ⟨.exit 0, ((), ())⟩
def hd_rc (l : List Int) (i : Int) : L_rc.T := ((l, i, ()), ())
def pa_rc (l : List Int) (i p : Int) : Tree cRc := bif Int.tmod i 2 == 1 then inN l.length i (bif p == -1 then inN l.length (W64 (i - 1)) (bif getA l (Int.toNat (W64 (i - 1))) (dflt cI) == -1 then .leaf (.inr rt_rc) else .leaf (.inl (hd_rc l (W64 (i + 1))))) else .leaf (.inl (hd_rc l (W64 (i + 1))))) else .leaf (.inl (hd_rc l (W64 (i + 1))))
def bd_rc (l : List Int) (i p : Int) : Tree cRc := bif decide (p < -1) then .leaf (.inr rt_rc) else inN l.length i (bif decide (p > 1000) then .leaf (.inr rt_rc) else inN l.length i (bif p != -1 then inN l.length i (bif fiV l p != i then .leaf (.inr rt_rc) else pa_rc l i p) else pa_rc l i p))
def sm_rc (l : List Int) (i : Int) : Tree cRc := bif decide (i < (l.length : Int)) then inN l.length i (bd_rc l i (getA l (Int.toNat i) (dflt cI))) else .leaf (.inr ex_rc)
def st_rc (g : L_rc.T) : Tree cRc := sm_rc g.1.1 g.1.2.1
def fu_rc (g : L_rc.T) : Nat := (g.1.1 : List Int).length + 1
theorem e_rc (g : L_rc.T) : evC Try.prog (evFn XDq 6) XDq.pures 26 XDq.u (fun _ => none) lb_rc (L_rc.of g) (stepOut L_rc E_rc) = st_rc g := by kernel_rfl
theorem findIdx_take (l : List Int) (i : Nat) (hi : i < l.length) (hp : l[i] ≠ -1) : (fiV l l[i] != (i : Int)) = (l.take i).contains l[i] := by
  have hf : fiB l[i] l[i] = true := by unfold fiB; simp [hp]
  have ha : l.any (fiB l[i]) = true := List.any_eq_true.2 ⟨l[i], List.getElem_mem hi, hf⟩
  unfold fiV
  rw [ha]
  simp only [cond_true]
  have hlt : l.findIdx (fiB l[i]) ≤ i := by
    rcases Nat.lt_or_ge i (l.findIdx (fiB l[i])) with h | h
    · exact absurd hf (by simpa using List.not_of_lt_findIdx h)
    · exact h
  rw [Bool.eq_iff_iff, bne_iff_ne, List.contains_iff_mem]
  constructor
  · intro h
    have h1 : l.findIdx (fiB l[i]) < i := by omega
    have h2 : fiB l[i] (l[l.findIdx (fiB l[i])]'(by omega)) = true := List.findIdx_getElem (w := by omega)
    unfold fiB at h2
    simp only [Bool.and_eq_true, beq_iff_eq] at h2
    have h3 : l[l.findIdx (fiB l[i])]'(by omega) ∈ l.take i := by
      rw [List.mem_take_iff_getElem]
      exact ⟨l.findIdx (fiB l[i]), by omega, rfl⟩
    have h4 := h2.1
    unfold fiB at h3
    rw [show (l[List.findIdx (fun x => (x == l[i]) && (l[i] != -1)) l]'(by unfold fiB at h1; omega)) = l[i] from h4] at h3
    exact h3
  · intro h
    rw [List.mem_take_iff_getElem] at h
    obtain ⟨j, hj, hjl⟩ := h
    have hjf : fiB l[i] (l[j]'(by omega)) = true := by unfold fiB; simp [hjl, hp]
    have : l.findIdx (fiB l[i]) ≤ j := by
      rcases Nat.lt_or_ge j (l.findIdx (fiB l[i])) with h | h
      · exact absurd hjf (by simpa using List.not_of_lt_findIdx h)
      · exact h
    omega
theorem rc_run (l : List Int) (h64 : l.length ≤ 64) : iter st_rc (l.length + 1) (hd_rc l 0) = some (bif allI (okR l) 0 l then ex_rc else rt_rc) := by
  refine iter_allS (st := st_rc) l (fun i (_ : Unit) => hd_rc l i) (okR l) (fun _ s => s) rt_rc ex_rc (fun _ _ => True) (fun i m hi _ => ⟨?_, trivial⟩) (fun m _ => ?_) () trivial
  · show (sm_rc l i).run = _
    unfold sm_rc inN
    rw [decide_eq_true (show (i : Int) < (l.length : Int) by omega), decide_eq_true (show 0 ≤ (i : Int) ∧ (i : Int) < (l.length : Int) by omega), show Int.toNat (i : Int) = i by omega, getA_lt hi]
    simp only [cond_true]
    have epa : (pa_rc l i l[i]).run = some (bif (i % 2 == 0 || (l[i] != -1 || getA l (i - 1) (dflt cI) != -1)) then .inl (hd_rc l ((i + 1 : Nat) : Int)) else .inr rt_rc) := by
      unfold pa_rc inN
      rw [decide_eq_true (show 0 ≤ (i : Int) ∧ (i : Int) < (l.length : Int) by omega), W64_id (n := (i : Int) + 1) (by omega) (by omega)]
      have et : Int.tmod (i : Int) 2 = ((i % 2 : Nat) : Int) := by rw [Int.tmod_eq_emod_of_nonneg (by omega)]; omega
      rw [et]
      by_cases hm : i % 2 = 0
      · rw [hm]; rfl
      · have h1 : i % 2 = 1 := by omega
        rw [h1, W64_id (n := (i : Int) - 1) (by omega) (by omega), decide_eq_true (show 0 ≤ (i : Int) - 1 ∧ (i : Int) - 1 < (l.length : Int) by omega), show Int.toNat ((i : Int) - 1) = i - 1 by omega]
        unfold bne
        cases l[i] == -1 <;> cases getA l (i - 1) (dflt cI) == -1 <;> rfl
    unfold bd_rc okR inN
    rw [decide_eq_true (show 0 ≤ (i : Int) ∧ (i : Int) < (l.length : Int) by omega)]
    simp only [cond_true]
    cases h1 : decide (l[i] < -1) with
    | true =>
      rw [decide_eq_false (show ¬ (-1 ≤ l[i] ∧ l[i] ≤ 1000) by have := of_decide_eq_true h1; omega)]
      rfl
    | false =>
      have h1 := of_decide_eq_false h1
      cases h3 : decide (l[i] > 1000) with
      | true =>
        rw [decide_eq_false (show ¬ (-1 ≤ l[i] ∧ l[i] ≤ 1000) by have := of_decide_eq_true h3; omega)]
        rfl
      | false =>
        have h3 := of_decide_eq_false h3
        rw [decide_eq_true (show -1 ≤ l[i] ∧ l[i] ≤ 1000 by omega)]
        simp only [cond_false, Bool.true_and]
        cases h4 : (l[i] != -1) with
        | false =>
          have h5 : (l[i] == -1) = true := by simpa [bne] using h4
          simp only [cond_false]
          rw [epa, h5, h4]
          rfl
        | true =>
          have h5 : (l[i] == -1) = false := by simpa [bne] using h4
          simp only [cond_true]
          rw [h5, findIdx_take l i hi (by simpa using h4)]
          cases (l.take i).contains l[i] with
          | true => rfl
          | false => simp only [cond_false]; rw [epa, h4]; rfl
  · show (sm_rc l l.length).run = _
    unfold sm_rc
    rw [decide_eq_false (show ¬ (l.length : Int) < (l.length : Int) by omega)]
    rfl
noncomputable def X_rc : Ctx := ctxL Try.prog plDq [(26, Try.f26)] [((26, 6), loopSum L_rc E_rc (finX [.ret, .exit 0] st_rc fu_rc))]
theorem X_rc_ok : CtxOk X_rc := ctxL_ok mixed puDq (fns_cons is_rCD fns_nil) (loops_one (lb := lb_rc) (k := 6) (by kernel_rfl) (by kernel_rfl) (loopOk_x0 XDq_ok 6 _ L_rc E_rc (fun e => by cases e <;> exact Nat.le_refl _) [.ret, .exit 0] _ fu_rc e_rc))
def U_rc (y : Option (Left' E_rc)) : Tree (TCTs [cI]) := bif isE .ret y then .leaf ((valE .ret y).1.1, ()) else bif isE (.exit 0) y then .leaf (0, ()) else .fail
def T_rc (l : List Int) : Tree (TCTs [cI]) := bif decide ((l.length : Int) > 64) then .leaf (6, ()) else bif !powB (l.length : Int) then .leaf (2, ()) else bif decide ((l.length : Int) < 2) then .leaf (2, ()) else U_rc (iter st_rc (l.length + 1) (hd_rc l 0))
theorem T_rc_ok (l : List Int) : (T_rc l).sat (fun y => y = (drV l, ())) := by
  unfold T_rc drV
  refine sat_cond (fun h => ?_) (fun h => ?_)
  · rw [h]; exact rfl
  rw [h]
  have h := of_decide_eq_false h
  cases hq : powB (l.length : Int) with
  | false => exact rfl
  | true =>
    refine sat_cond (fun h2 => ?_) (fun h2 => ?_)
    · cases h2
    refine sat_cond (fun h2 => ?_) (fun h2 => ?_)
    · rw [h2]; exact rfl
    rw [h2]
    have h2 := of_decide_eq_false h2
    show (U_rc _).sat (fun y => y = (bif allI (okD l) 0 l then 0 else 2, ()))
    rw [rc_run l (by omega), okD_okR l (pow_even (by omega) hq (by omega))]
    cases allI (okR l) 0 l <;> exact rfl
theorem q_rdraw : PureOk Try.prog 26 s_draw := q_by X_rc_ok 6 (fun x => T_rc x.1) (fun x => by kernel_rfl) fun x _ _ => T_rc_ok x.1
end Ev
end V
end Go.Proofs.Ytgchccljmjmibaa
