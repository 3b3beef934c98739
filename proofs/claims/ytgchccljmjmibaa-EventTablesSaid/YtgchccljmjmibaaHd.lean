/- Chapter 11: EventTables: the law. -/
import Derived.Test.YtgchccljmjmibaaHc
namespace Go.Proofs.Ytgchccljmjmibaa
open Go.RowKit
namespace V
namespace Ev
theorem cntM_mem (l : LSc) : ∀ (k : Int) (s : TCT cSc), cntM l k = some s → s ∈ l := by
  have key : ∀ (L : LSc) (m : cMp), (∀ k s, m k = some s → s ∈ l) → (∀ s ∈ L, s ∈ l) → ∀ k s, (L.foldl cntS m) k = some s → s ∈ l := by
    intro L
    induction L with
    | nil => intro m hm _; exact hm
    | cons x L ih =>
      intro m hm hL
      rw [List.foldl_cons]
      refine ih _ (fun k s h => ?_) fun s hs => hL s (by simp [hs])
      unfold cntS at h
      cases hb : (!(m x.1).isSome || laB x (or0 (m x.1))) with
      | false => rw [hb] at h; exact hm k s h
      | true =>
        rw [hb, cond_true] at h
        by_cases e : k = x.1
        · subst e
          rw [upd_same] at h
          cases h
          exact hL x (by simp)
        · rw [upd_other _ _ e] at h
          exact hm k s h
  exact key l _ (fun k s h => by cases h) fun s hs => hs
theorem chk_bad (l : LSc) (h : chkV l = 0) : ∀ s ∈ l, badS s = false := by
  intro s hs
  unfold chkV at h
  cases h1 : decide ((l.length : Int) > 400) with
  | true => rw [h1] at h; cases h
  | false =>
    rw [h1, cond_false] at h
    cases h2 : l.any badS with
    | true => rw [h2] at h; cases h
    | false =>
      cases h3 : badS s with
      | false => rfl
      | true => rw [List.any_eq_false] at h2; exact absurd h3 (h2 s hs)
theorem okM_cnt (l : LSc) (hw : WFD (.sl cSc) l) (h : chkV l = 0) : okM (cntM l) := by
  intro k s hs
  have hm := cntM_mem l k s hs
  have hb := chk_bad l h s hm
  rw [badS_or s (hw.2 s hm)] at hb
  simp only [Bool.or_eq_false_iff, decide_eq_false_iff_not] at hb
  exact ⟨Int.not_lt.1 hb.2.2.2.1, Int.not_lt.1 hb.2.2.2.2⟩
theorem T_et_ok (n : Int) (l : LSc) (hw : WFD (.sl cSc) l) : (T_et n l).sat fun _ => True := by
  unfold T_et
  refine sat_cond (fun _ => trivial) (fun _ => ?_)
  cases hb : blkV n l != 0 with
  | true =>
    show (bad_et n l).sat _
    unfold bad_et tblV plcV
    rw [hb, beq_self_eq_true]
    trivial
  | false =>
    have h0 : blkV n l = 0 := by simpa [bne] using hb
    obtain ⟨h2, h16, hc⟩ := blk_in n l h0
    have hm := okM_cnt l hw hc
    have hinv := inv_tbV (n := n) (m := cntM l) hm (by omega)
    have et : tblV n l = tbV n (cntM l) := by unfold tblV; rw [hb]; rfl
    have ep : plcV n l = plL (srtV (tbV n (cntM l), n, cntM l) (tbV n (cntM l))) := by unfold plcV; rw [hb]; rfl
    have hlen := tbV_len n (cntM l)
    have hF : ∀ i : Nat, i < n.toNat → RowOk n.toNat i (gR (tbV n (cntM l)) i) := fun i hi => by
      have hg := hinv.gam i hi
      have hgl := games_le (n := n) (m := cntM l) (by omega) i hi
      have hwi := hinv.win i hi
      have hni := hinv.net i hi
      refine ⟨?_, hwi.1, hwi.2, by omega, hni.1, hni.2⟩
      rw [gR_get _ i (by omega)]
      have e : (plL (tbV n (cntM l)))[i]'(by rw [plL_len]; omega) = rP (tbV n (cntM l))[i] := List.getElem_map _
      rw [← e]
      simp only [tbV_pl]
      simp
    have hP := plc_ok n.toNat (tbV n (cntM l), n, cntM l) (tbV n (cntM l)) hlen (tbV_pl n (cntM l))
    simp only [cond_false]
    rw [decide_eq_false (show ¬ n < 2 by omega), decide_eq_false (show ¬ n > 16 by omega), et, ep, hlen, hP.len]
    rw [show (((n.toNat : Nat) : Int) != n) = false by rw [show ((n.toNat : Nat) : Int) = n by omega]; exact bne_self_eq_false _]
    simp only [cond_false]
    unfold y0_et
    rw [et, ep, e0t_run n l _ _ h2 h16 hc]
    show (w0_et _).sat _
    unfold w0_et ex_e0t
    have hmk : ∀ k : Tree Unit, mk8 n k = k := fun k => by
      unfold mk8
      rw [decide_eq_true (show 0 ≤ n ∧ n ≤ n ∧ n ≤ 65536 ∧ ((8 : Nat) : Int) * n ≤ 281474976710656 by omega)]
      rfl
    obtain ⟨s, hs, hr⟩ := e1t_run n l (tbV n (cntM l)) (plL (srtV (tbV n (cntM l), n, cntM l) (tbV n (cntM l)))) (((List.range (n.toNat * (n.toNat - 1) / 2)).countP fun (k : Nat) => (cntM l (k : Int)).isSome : Nat) : Int) h2 h16 hlen hF
    show (mk8 n (w1_et (iter st_e1t (n.toNat + 1) (hd_e1t n l (tbV n (cntM l)) (plL (srtV (tbV n (cntM l), n, cntM l) (tbV n (cntM l)))) (((List.range (n.toNat * (n.toNat - 1) / 2)).countP fun (k : Nat) => (cntM l (k : Int)).isSome : Nat) : Int) ⟨0, 0, List.replicate (Int.toNat n) 0⟩ 0)))).sat _
    rw [hmk, hr]
    show (bif s.wi != (((List.range (n.toNat * (n.toNat - 1) / 2)).countP fun (k : Nat) => (cntM l (k : Int)).isSome : Nat) : Int) then Tree.fail else bif s.ne != 0 then .fail else mkT n (w3_et (iter st_e2t (n.toNat + 1) (hd_e2t n l (tbV n (cntM l)) (plL (srtV (tbV n (cntM l), n, cntM l) (tbV n (cntM l)))) s.ws (List.replicate (Int.toNat n) false) 0)))).sat _
    have hwi : s.wi = (((List.range (n.toNat * (n.toNat - 1) / 2)).countP fun (k : Nat) => (cntM l (k : Int)).isSome : Nat) : Int) := by
      rw [hs.wi, ← hlen, List.take_length, hinv.sw, hlen, games_cnt (by omega) (by omega)]
    have hne : s.ne = 0 := by rw [hs.ne, ← hlen, List.take_length, hinv.sn]
    rw [hwi, hne]
    simp only [bne_self_eq_false, cond_false]
    rw [e2t_run n l (tbV n (cntM l)) _ _ s h2 h16 hc hlen hF hP hs]
    unfold mkT
    rw [decide_eq_true (show 0 ≤ n ∧ n ≤ n ∧ n ≤ 65536 ∧ ((1 : Nat) : Int) * n ≤ 281474976710656 by omega)]
    trivial
end Ev
open Ev
theorem eventTables_sat : LawSat X_eventTables 11 cs_eventTables 7 := lawSat 7 (fun y => T_et y.1 y.2.1) T_et_eq fun y hw => T_et_ok y.1 y.2.1 hw.2.1
end V
end Go.Proofs.Ytgchccljmjmibaa
