/- The law EventOrder: what follows from the sheets follows from the set of them. -/
import Derived.Test.YtgchccljmjmibaaHg
namespace Go.Proofs.Ytgchccljmjmibaa
open Go.RowKit
namespace V
namespace Ev
theorem tblV_len (n : Int) (l : List (TCT cSc)) : (tblV n l).length ≤ 16 := by
  unfold tblV
  cases h : blkV n l != 0 with
  | true => simp
  | false =>
    have h0 : blkV n l = 0 := by simpa [bne] using h
    obtain ⟨h2, h16, _⟩ := blk_in n l h0
    rw [cond_false, tbV_len]
    omega
theorem eqR4_self (a : TCT cRow) : eqR4 a a = true := by unfold eqR4; simp
theorem eo_run (t : Rows) (hl : t.length ≤ 16) : iter st_eo (t.length + 1) (hd_eo t t 0) = some ex_eo := by
  have := iter_same (st := st_eo) (u := t) (v := t) rfl eqR4 (fun i => hd_eo t t i) (rt_eo false) ex_eo (fun i hi hj => by
    show (sm_eo t t i).run = _
    unfold sm_eo
    rw [decide_eq_true (show (i : Int) < (t.length : Int) by omega), inN_ok (by omega), inN_ok (by omega), show Int.toNat (i : Int) = i by omega, getA_lt hi, W64_id (n := (i : Int) + 1) (by omega) (by omega), eqR4_self]
    rfl) (by
    show (sm_eo t t t.length).run = _
    unfold sm_eo
    rw [decide_eq_false (show ¬ (t.length : Int) < (t.length : Int) by omega)]
    rfl) t.length 0 (t.length + 1) (by omega) (by omega)
  rw [List.drop_zero] at this
  have he : ∀ l : Rows, eqL eqR4 l l = true := by
    intro l
    induction l with
    | nil => rfl
    | cons x l ih =>
      unfold eqL at ih ⊢
      rw [List.zip_cons_cons, List.all_cons, ih, eqR4_self]
      rfl
  rw [he t] at this
  exact this
theorem w0_ok (s : List Int) (n : Int) {l m : List (TCT cSc)} (h1 : chkV m = chkV l) (h2 : cntM m = cntM l) : (w0_eo s n l m).sat fun _ => True := by
  have e1 : sidV s m = sidV s l := by unfold sidV alV sdO; rw [h1, h2]
  have e2 : chaV s m = chaV s l := by unfold chaV alV sdW; rw [h1, h2]
  have e3 : blkV n m = blkV n l := by unfold blkV; rw [h1]
  have e4 : tblV n m = tblV n l := by unfold tblV; rw [e3, h2]
  have e5 : plcV n m = plcV n l := by unfold plcV; rw [e3, h2]
  unfold w0_eo
  rw [e1, e2, e3, e4, e5]
  unfold w1_eo
  simp only [decide_true, Bool.not_true, cond_false, bne_self_eq_false]
  rw [eo_run _ (tblV_len n l)]
  trivial
theorem coV_some (l : List (TCT cSc)) (k : Int) (h : ((coV l k).2 == 0) = true) : chkV l = 0 ∧ ∃ c, cntM l k = some c ∧ (coV l k).1 = c := by
  unfold coV at h ⊢
  cases h1 : chkV l != 0 with
  | true =>
    rw [h1] at h
    have h2 : chkV l = 0 := by simpa using h
    rw [h2] at h1
    cases h1
  | false =>
    have h2 : chkV l = 0 := by simpa [bne] using h1
    rw [h1] at h
    refine ⟨h2, ?_⟩
    cases hc : cntM l k with
    | none => rw [hc] at h; cases h
    | some c => exact ⟨c, rfl, rfl⟩
theorem v0_ok (s : List Int) (n : Int) (l m : List (TCT cSc)) (x : TCT cSc) (hx : WFD cSc x) (hl : l.length ≤ 60) (hm : m.length ≤ 120) (hs : ∀ t, t ∈ m ↔ t ∈ l) : (v0_eo s n l m x).sat fun _ => True := by
  have h1 := chk_same hs (by omega) (by omega)
  have h2 := cnt_same hs
  have hw := w0_ok s n h1 h2
  unfold v0_eo
  refine sat_cond (fun h => ?_) (fun _ => hw)
  obtain ⟨hc, c, hk, he⟩ := coV_some l x.1 h
  rw [he]
  unfold v1_eo
  refine sat_cond (fun g1 => ?_) (fun _ => hw)
  refine sat_cond (fun g2 => ?_) (fun _ => hw)
  refine sat_cond (fun g3 => ?_) (fun _ => hw)
  refine sat_cond (fun g4 => ?_) (fun _ => hw)
  refine sat_cond (fun g5 => ?_) (fun _ => hw)
  refine sat_cond (fun g6 => ?_) (fun _ => hw)
  rw [app_ok (by simp; omega) (by omega), cond_true]
  have g1 := of_decide_eq_true g1
  have g2 := of_decide_eq_true g2
  have g3 := of_decide_eq_true g3
  have g4 := of_decide_eq_true g4
  have g5 := of_decide_eq_true g5
  have g6 := of_decide_eq_true g6
  have hb : badS x = false := by
    rw [badS_or x hx]
    have key : ∀ a b c : Int, a ≥ 0 → b ≥ 0 → b ≤ 1 → c ≥ 1 → c ≤ 26 → (decide (a < 0) || (decide (b < 0) || (decide (b > 1) || (decide (c < 1) || decide (c > 26))))) = false := by
      intro a b c h1 h2 h3 h4 h5
      rw [decide_eq_false (by omega), decide_eq_false (by omega), decide_eq_false (by omega), decide_eq_false (by omega), decide_eq_false (by omega)]
      rfl
    exact key _ _ _ g2 g3 g4 g5 g6
  have hla : laB x c = false := by
    rw [Bool.eq_false_iff]
    intro h
    rw [laB_iff] at h
    have key : ∀ a1 a2 a3 b1 b2 b3 : Int, a1 < b1 → (a1 > b1 ∨ a1 = b1 ∧ (a2 > b2 ∨ a2 = b2 ∧ a3 > b3)) → False := by omega
    exact key _ _ _ _ _ _ g1 h
  refine w0_ok s n ?_ ?_
  · rw [← h1]
    unfold chkV
    rw [decide_eq_false (show ¬ (((m ++ [eS x]).length : Int) > 400) by simp; omega), decide_eq_false (show ¬ ((m.length : Int) > 400) by omega), List.any_append, show [eS x].any badS = badS x by simp [List.any]; rfl, hb, Bool.or_false]
  · rw [show eS x = x from rfl, cnt_late m x c (by rw [h2]; exact hk) hla, h2]
theorem T_eo_ok (s : List Int) (n : Int) (l : List (TCT cSc)) (b t : Nat) (x : TCT cSc) (hb : b ≤ 255) (ht : t ≤ 255) (hx : WFD cSc x) : (T_eo s n l b t x).sat fun _ => True := by
  unfold T_eo
  refine sat_cond (fun _ => trivial) fun _ => sat_cond (fun _ => trivial) fun h => ?_
  have h := of_decide_eq_false h
  have hl : l.length ≤ 60 := by omega
  rw [W64_id (n := (l.length : Int) - 1) (by omega) (by omega), tu_run x l b t hb ht (by omega) l.length [] (Nat.le_refl _) (by simp; omega) _ (by omega)]
  have hlen := tuR_len l b t l.length []
  have hm : (tuR l b t l.length []).length ≤ 120 := by simp at hlen; omega
  exact v0_ok s n l (tuR l b t l.length []) x hx hl hm (tuR_same l b t)
end Ev
open Ev
theorem T_eo_all (s : List Int) (n : Int) (l : List (TCT cSc)) (b t : Int) (x : TCT cSc) (hb : 0 ≤ b ∧ b ≤ 255) (ht : 0 ≤ t ∧ t ≤ 255) (hx : WFD cSc x) : (T_eo s n l b t x).sat fun _ => True := by
  have := T_eo_ok s n l b.toNat t.toNat x (by omega) (by omega) hx
  rw [show ((b.toNat : Nat) : Int) = b by omega, show ((t.toNat : Nat) : Int) = t by omega] at this
  exact this
theorem eventOrder_sat : LawSat X_eventOrder nEo cs_eventOrder 7 := lawSat 7 (fun y => T_eo y.1 y.2.1 y.2.2.1 y.2.2.2.1 y.2.2.2.2.1 y.2.2.2.2.2.1) T_eo_eq fun _ hw => T_eo_all _ _ _ _ _ _ hw.2.2.2.1 hw.2.2.2.2.1 hw.2.2.2.2.2.1
end V
end Go.Proofs.Ytgchccljmjmibaa
