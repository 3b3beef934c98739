/- Chapter 11: Sides and Champion, in the reference; the law EventSheets. -/
import Derived.Test.YtgchccljmjmibaaEk
import Derived.Test.YtgchccljmjmibaaBb
namespace Go.Proofs.Ytgchccljmjmibaa
open Go.RowKit
namespace V
namespace Ev
theorem r0_run {l : List (TCT cSc)} (hc : (chkV l == 0) = true) : ∀ (k : Nat) (now : List Int) (out : List (TCT cPq)) (fuel : Nat), now.length = 2 ^ k → now.length ≤ 64 → out.length + now.length ≤ 100 → k < fuel →
    iter st_r0 fuel (hd_r0 l out now) = some (ex_r0 (siQ (cntM l) (now.length - 1) now out).2)
  | 0, now, out, fuel + 1, h, _, _, _ => by
    have h1 : now.length = 1 := by simpa using h
    refine iter_out ?_
    show (sm_r0 l out now).run = _
    unfold sm_r0
    rw [h1]
    rfl
  | k + 1, now, out, fuel + 1, h, h6, ho, hf => by
    have hp : 2 ^ (k + 1) = 2 * 2 ^ k := by rw [Nat.pow_succ]; omega
    have hpos : 0 < 2 ^ k := Nat.two_pow_pos k
    have hrun : (st_r0 (hd_r0 l out now)).run = some (.inl (hd_r0 l (lv (cntM l) now [] out).2 (lv (cntM l) now [] out).1)) := by
      show (sm_r0 l out now).run = _
      unfold sm_r0
      rw [decide_eq_true (show ((now.length : Int) > 1) by omega)]
      have := r1_run hc now (2 ^ k) 0 [] out (now.length + 1) (by omega) h6 (by simp; omega) (by omega) (by omega)
      rw [show ((0 : Nat) : Int) = 0 from rfl] at this
      simp only [cond_true]
      rw [this, List.drop_zero]
      rfl
    obtain ⟨q1, q2⟩ := lv_len (cntM l) (2 ^ k) now [] out (by omega)
    simp only [List.length_nil, Nat.zero_add] at q1
    rw [iter_in hrun, r0_run hc k _ _ fuel q1 (by omega) (by omega) (by omega), q1]
    have := siQ_lv (cntM l) (2 ^ k) (2 ^ k - 1) now [] out (by omega)
    rw [List.append_nil] at this
    rw [← this, show 2 ^ k + (2 ^ k - 1) = now.length - 1 by omega]
theorem pow_ex {n : Nat} (h : n ≤ 64) (hp : powB (n : Int) = true) : ∃ k, k ≤ 6 ∧ n = 2 ^ k := by
  have : ∀ n : Nat, n ≤ 64 → powB (n : Int) = true → n = 2 ^ 0 ∨ n = 2 ^ 1 ∨ n = 2 ^ 2 ∨ n = 2 ^ 3 ∨ n = 2 ^ 4 ∨ n = 2 ^ 5 ∨ n = 2 ^ 6 := by decide +kernel
  rcases this n h hp with h | h | h | h | h | h | h
  · exact ⟨0, by omega, h⟩
  · exact ⟨1, by omega, h⟩
  · exact ⟨2, by omega, h⟩
  · exact ⟨3, by omega, h⟩
  · exact ⟨4, by omega, h⟩
  · exact ⟨5, by omega, h⟩
  · exact ⟨6, by omega, h⟩
/-- slots and sheets that are fine -/
def rsB (s : List Int) (l : List (TCT cSc)) : Bool := decide (1 ≤ s.length ∧ s.length ≤ 64) && (powB (s.length : Int) && (chkV l == 0))
theorem l_r1 : LoopOk Try.prog 71 lb_rs1 (loopSum L_r1 E_r1 (finX [.exit 2] st_r1 fu_r1)) := loopOk_x0 XWi_ok 6 _ L_r1 E_r1 (fun _ => Nat.le_refl _) [.exit 2] _ fu_r1 e_r1
theorem loops_r0 : loopsOf lb_rs0 = [lb_rs1] := by kernel_rfl
theorem key_r1 : keyOf lb_rs1 = 6 := by kernel_rfl
theorem l_r0 : LoopOk Try.prog 71 lb_rs0 (loopSum L_r0 E_r0 (finX [.exit 0] st_r0 fu_r0)) := loopOk_xZ XWi_ok 6 _ [6] Lt_r0 (fun d hd f hf => by
  rw [loops_r0, List.mem_singleton] at hd
  subst hd
  rw [key_r1] at hf
  cases hf
  exact l_r1) L_r0 E_r0 (fun _ => Nat.le_refl _) [.exit 0] _ fu_r0 e_r0
noncomputable def X_rs : Ctx := ctxL Try.prog plWi [(71, Try.f71)] [((71, 3), loopSum L_r0 E_r0 (finX [.exit 0] st_r0 fu_r0))]
theorem X_rs_ok : CtxOk X_rs := ctxL_ok mixed puWi (fns_cons is_rsides fns_nil) (loops_cons (loops_of (ds := [lb_rs0, lb_rs1]) (by kernel_rfl) ⟨one_key (k := 3) (by kernel_rfl) rfl l_r0, no_key (k := 6) (by kernel_rfl) rfl, trivial⟩) loops_nil)
abbrev s_rsides : PureT := spec [.sl cI, .sl cSc] [.sl cPq] (fun x => rsB x.1 x.2.1) (fun x => (sdO x.1 x.2.1, ()))
def U_rs (y : Option (Left' E_r0)) : Tree (TCTs [.sl cPq]) := bif isE (.exit 0) y then .leaf ((valE (.exit 0) y).1.1, ()) else .fail
theorem U_rs_ok (s : List Int) (l : List (TCT cSc)) (h : rsB s l = true) : (U_rs (iter st_r0 (s.length + 1) (hd_r0 l [] s))).sat (fun y => y = (sdO s l, ())) := by
  unfold rsB at h
  rw [Bool.and_eq_true, Bool.and_eq_true, decide_eq_true_iff] at h
  obtain ⟨k, hk, e⟩ := pow_ex h.1.2 h.2.1
  have : k < 2 ^ k := Nat.lt_two_pow_self
  rw [r0_run h.2.2 k s [] (s.length + 1) e h.1.2 (by simp; omega) (by omega)]
  exact rfl
theorem q_rsides : PureOk Try.prog 71 s_rsides := q_by X_rs_ok 6 (fun x => U_rs (iter st_r0 (x.1.length + 1) (hd_r0 x.2.1 [] x.1))) (fun x => by kernel_rfl) fun x h _ => U_rs_ok x.1 x.2.1 h
noncomputable def plRs : List (Nat × PureT) := (71, s_rsides) :: plWi
theorem puRs : PuOk Try.prog plRs := puOk_cons is_rsides.plain q_rsides puWi
theorem al_rs {s : List Int} {l : List (TCT cSc)} (h1 : (drV s != 0) = false) (h2 : (chkV l != 0) = false) : rsB s l = true ∧ 2 ≤ s.length := by
  have hl := dr_len h1
  unfold rsB
  rw [decide_eq_true hl, Bool.true_and]
  have hc : (chkV l == 0) = true := by unfold bne at h2; simpa using h2
  rw [hc, Bool.and_true]
  unfold drV at h1
  rw [decide_eq_false (show ¬ ((s.length : Int) > 64) by omega)] at h1
  cases h3 : powB (s.length : Int) with
  | false => rw [h3] at h1; cases h1
  | true =>
    rw [h3] at h1
    refine ⟨rfl, ?_⟩
    cases h4 : decide ((s.length : Int) < 2) with
    | true => rw [h4] at h1; cases h1
    | false => have := of_decide_eq_false h4; omega
def Q_rSides (s : List Int) (l : List (TCT cSc)) : Tree (TCTs [.sl cPq, cI]) := bif rsB s l then .leaf (sdO s l, 0, ()) else .fail
def T_rSides (s : List Int) (l : List (TCT cSc)) : Tree (TCTs [.sl cPq, cI]) := bif drV s != 0 then (bif drV s != 0 then .leaf ([], drV s, ()) else Q_rSides s l) else (bif chkV l != 0 then .leaf ([], chkV l, ()) else Q_rSides s l)
theorem T_rSides_ok (s : List Int) (l : List (TCT cSc)) : (T_rSides s l).sat (fun y => y = ((sidV s l).1, (sidV s l).2, ())) := by
  unfold T_rSides sidV alV
  cases h1 : (drV s != 0) with
  | true => simp only [cond_true]; rw [h1]; exact rfl
  | false =>
    simp only [cond_false]
    cases h2 : (chkV l != 0) with
    | true => exact rfl
    | false =>
      unfold Q_rSides
      rw [(al_rs h1 h2).1]
      exact rfl
theorem q_rSides : PureOk Try.prog 34 s_Sides := q_by (ctx_ok mixed puRs (fns_cons is_rSides (fns_cons is_rboth fns_nil))) 6 (fun x => T_rSides x.1 x.2.1) (fun x => by kernel_rfl) fun x _ _ => T_rSides_ok x.1 x.2.1
end Ev
end V
end Go.Proofs.Ytgchccljmjmibaa
