/- Chapter 11: Substitute of the program. -/
import Derived.Test.YtgchccljmjmibaaFh
import Derived.Test.YtgchccljmjmibaaBb
namespace Go.Proofs.Ytgchccljmjmibaa
open Go.RowKit
namespace V
namespace Ev
def delM (m : Int → Option Int) : Int → Option Int := fun j => bif beqD cI j (-1) then none else m j
def y2_su (l : List Int) (b : Int) (o : Option Int) : TDw := bif !l.isEmpty then bif appOk ([] : List Int) l 8 then inO l.length (o.getD 0) (.leaf (setA l (Int.toNat (o.getD 0)) b, 0, ())) else .fail else .fail
def y1_su (l : List Int) (a b : Int) (m : Int → Option Int) : TDw := bif !(delM m a).isSome then .leaf ([], 5, ()) else bif decide (b < 0) then .leaf ([], 2, ()) else bif decide (b > 1000) then .leaf ([], 2, ()) else bif (delM m b).isSome then .leaf ([], 12, ()) else y2_su l b (delM m a)
def y0_su (y : Option (Left' E_su)) : TDw := bif isE (.exit 0) y then y1_su (valE (.exit 0) y).1.1 (valE (.exit 0) y).1.2.1 (valE (.exit 0) y).1.2.2.1 (valE (.exit 0) y).2.1.1 else .fail
def T_eSu (l : List Int) (a b : Int) : TDw := bif drV l != 0 then .leaf ([], drV l, ()) else y0_su (iter st_su (l.length + 1) (hd_su l a b l.length 0 (fun _ => none)))
structure InvW (l : List Int) (i : Nat) (m : Int → Option Int) : Prop where
  hav : ∀ p j, m p = some j → ∃ k : Nat, j = k ∧ k < i ∧ l[k]? = some p
  nil : ∀ p, m p = none → ∀ k, k < i → l[k]? ≠ some p
theorem su_run (l : List Int) (a b : Int) (hl : l.length ≤ 64) : ∀ (d i fuel : Nat) (m : Int → Option Int), i + d = l.length → d < fuel → InvW l i m → ∃ m', InvW l l.length m' ∧ iter st_su fuel (hd_su l a b l.length i m) = some (ex_su l a b m')
  | 0, i, fuel + 1, m, h, _, hv => by
    have e : i = l.length := by omega
    subst e
    refine ⟨m, hv, iter_out ?_⟩
    show (sm_su l a b l l.length l.length m).run = _
    unfold sm_su
    rw [decide_eq_false (show ¬ ((l.length : Int) < (l.length : Int)) by omega)]
    rfl
  | d + 1, i, fuel + 1, m, h, hf, hv => by
    have hi : i < l.length := by omega
    have hrun : (st_su (hd_su l a b l.length i m)).run = some (.inl (hd_su l a b l.length ((i + 1 : Nat) : Int) (upd m l[i] i))) := by
      show (sm_su l a b l l.length i m).run = _
      unfold sm_su
      rw [decide_eq_true (show ((i : Int) < (l.length : Int)) by omega), inN_ok (by omega), show Int.toNat (i : Int) = i by omega, getA_lt hi, W64_id (n := (i : Int) + 1) (by omega) (by omega)]
      rfl
    obtain ⟨m', q1, q2⟩ := su_run l a b hl d (i + 1) fuel (upd m l[i] i) (by omega) (by omega) ⟨fun p j hp => by
      by_cases e : p = l[i]
      · subst e
        rw [upd_same] at hp
        cases hp
        exact ⟨i, rfl, by omega, by simp⟩
      · rw [upd_other _ _ e] at hp
        obtain ⟨k, k1, k2, k3⟩ := hv.hav p j hp
        exact ⟨k, k1, by omega, k3⟩, fun p hp k hk => by
      by_cases e : p = l[i]
      · subst e
        rw [upd_same] at hp
        cases hp
      · rw [upd_other _ _ e] at hp
        by_cases ek : k = i
        · subst ek
          intro h2
          rw [List.getElem?_eq_getElem hi] at h2
          exact e (Option.some.inj h2).symm
        · exact hv.nil p hp k (by omega)⟩
    exact ⟨m', q1, by rw [iter_in hrun]; exact q2⟩
theorem del_fi {l : List Int} {m : Int → Option Int} (hv : InvW l l.length m) (ho : ∀ (i : Nat) (hi : i < l.length), okD l i l[i] = true) (p : Int) : delM m p = bif decide (fiV l p < 0) then none else some (fiV l p) := by
  unfold delM
  rw [show beqD cI p (-1) = (p == -1) from rfl]
  by_cases h1 : p = -1
  · subst h1
    rw [fiV_bye]
    rfl
  · rw [show (p == -1) = false by simpa using h1]
    simp only [cond_false]
    cases hm : m p with
    | none =>
      have := hv.nil p hm
      by_cases hf : fiV l p < 0
      · rw [decide_eq_true hf]; rfl
      · obtain ⟨i, hi, hil, ei, _⟩ := fiV_get (l := l) (p := p) (by omega)
        exact absurd (by rw [List.getElem?_eq_getElem hil, ei]) (this i hil)
    | some j =>
      obtain ⟨k, rfl, k2, k3⟩ := hv.hav p j hm
      have hk : l[k] = p := by
        rw [List.getElem?_eq_getElem k2] at k3
        exact Option.some.inj k3
      have ha : l.any (fiB p) = true := List.any_eq_true.2 ⟨l[k], List.getElem_mem k2, by unfold fiB; simp [hk, h1]⟩
      have hf0 : 0 ≤ fiV l p := by unfold fiV; rw [ha]; simp only [cond_true]; omega
      obtain ⟨i, hi, hil, ei, _⟩ := fiV_get hf0
      have hik : i ≤ k := by
        have : l.findIdx (fiB p) ≤ k := by
          rcases Nat.lt_or_ge k (l.findIdx (fiB p)) with h | h
          · have := List.not_of_lt_findIdx h
            rw [hk] at this
            unfold fiB at this
            simp [h1] at this
          · exact h
        unfold fiV at hi
        rw [ha] at hi
        simp only [cond_true] at hi
        omega
      have hki : ¬ i < k := by
        intro hlt
        have := ho k k2
        unfold okD at this
        rw [hk] at this
        simp only [Bool.and_eq_true, Bool.or_eq_true, beq_iff_eq, Bool.not_eq_true'] at this
        have h3 : (l.take k).contains p = true := by
          rw [List.contains_iff_mem, List.mem_take_iff_getElem]
          exact ⟨i, by omega, ei⟩
        rcases this.2.1 with h | h
        · exact h1 h
        · rw [h3] at h; cases h
      rw [decide_eq_false (by omega), hi, show i = k by omega]
      rfl
theorem dr_ok' {s : List Int} (h : (drV s != 0) = false) : allI (okD s) 0 s = true := by
  have hl := dr_len h
  unfold drV at h
  rw [decide_eq_false (show ¬ ((s.length : Int) > 64) by omega)] at h
  cases h3 : powB (s.length : Int) with
  | false => rw [h3] at h; cases h
  | true =>
    rw [h3] at h
    cases h4 : decide ((s.length : Int) < 2) with
    | true => rw [h4] at h; cases h
    | false =>
      rw [h4] at h
      cases h5 : allI (okD s) 0 s with
      | true => rfl
      | false => rw [h5] at h; cases h
theorem T_eSu_ok (l : List Int) (a b : Int) : (T_eSu l a b).sat (fun y => y = ((suV l a b).1, (suV l a b).2, ())) := by
  unfold T_eSu suV
  refine sat_cond (fun h => ?_) (fun h => ?_)
  · rw [h]; exact rfl
  have hl := dr_len h
  rw [h]
  have ho := (allI_iff (okD l) l 0).1 (dr_ok' h)
  simp only [Nat.zero_add] at ho
  obtain ⟨m, q1, q2⟩ := su_run l a b (by omega) l.length 0 (l.length + 1) (fun _ => none) (by omega) (by omega) ⟨fun _ _ h => (nomatch h), fun _ _ k hk => absurd hk (by omega)⟩
  rw [show ((0 : Nat) : Int) = 0 from rfl] at q2
  rw [q2]
  show (y1_su l a b m).sat _
  unfold y1_su
  rw [del_fi q1 ho a, del_fi q1 ho b]
  simp only [cond_false]
  cases h2 : decide (fiV l a < 0) with
  | true => exact rfl
  | false =>
    simp only [cond_false, Option.isSome_some, Bool.not_true]
    refine sat_cond (fun h3 => ?_) (fun h3 => ?_)
    · rw [h3]; exact rfl
    refine sat_cond (fun h4 => ?_) (fun h4 => ?_)
    · rw [h3, h4]; exact rfl
    rw [h3, h4]
    by_cases h5 : fiV l b < 0
    · rw [decide_eq_true h5, decide_eq_false (show ¬ (fiV l b ≥ 0) by omega)]
      have h2 := of_decide_eq_false h2
      have u1 := fiV_lt l a
      show (y2_su l b (some (fiV l a))).sat _
      unfold y2_su
      rw [app_ok (by simp; omega) (by omega), show (!l.isEmpty) = true by cases l with | nil => simp at hl | cons => rfl]
      simp only [Option.getD_some, cond_true]
      rw [inO_ok (by omega)]
      exact rfl
    · rw [decide_eq_false h5, decide_eq_true (show fiV l b ≥ 0 by omega)]
      exact rfl
theorem X_su_ok : CtxOk X_su := ctxL_ok mixed puMe (fns_cons is_eSub (fns_cons is_clone fns_nil)) (loops_cons (loops_of (ds := [lb_su]) (by kernel_rfl) ⟨one_key (k := 6) (by kernel_rfl) rfl (loopOk_x0 X_ix0_ok 6 _ L_su E_su (fun _ => Nat.le_refl _) [.exit 0] _ fu_su e_su), trivial⟩) (loops_cons (loops_none (by kernel_rfl)) loops_nil))
theorem q_eSub : PureOk Try.prog 29 s_Sub := q_by X_su_ok 6 (fun x => T_eSu x.1 x.2.1 x.2.2.1) (fun x => by kernel_rfl) fun x _ _ => T_eSu_ok x.1 x.2.1 x.2.2.1
/-! the law EventDraws -/
theorem is_ldr : FnIs Try.prog (8, Try.f8) := ⟨Try.func8, by kernel_rfl, by kernel_rfl⟩
noncomputable def plDs : List (Nat × PureT) := (23, s_Order) :: (24, s_Order) :: (20, s_Draw) :: (27, s_Draw) :: (21, s_draw) :: (26, s_draw) :: (22, s_Meet) :: (28, s_Meet) :: (29, s_Sub) :: (30, s_Sub) :: (25, s_ints) :: (15, s_fine) :: []
theorem puDs : PuOk Try.prog plDs := puOk_cons is_eOrd.plain q_eOrder (puOk_cons is_rOrd.plain q_rOrder (puOk_cons is_eDraw.plain q_Draw (puOk_cons is_rDraw.plain q_rDraw (puOk_cons is_eCD.plain q_draw (puOk_cons is_rCD.plain q_rdraw (puOk_cons is_eMeet.plain q_eMeet (puOk_cons is_rMeet.plain q_rMeet (puOk_cons is_eSub.plain q_eSub (puOk_cons is_rSub.plain q_rSub (puOk_cons is_ints.plain q_ints (puOk_cons is_w12.plain q_fine puOk_nil)))))))))))
abbrev cs_eventDraws : List TC := [cI, cI, .sl cI, .sl cI, cI, cI]
end Ev
open Ev
noncomputable def X_eventDraws : Ctx := ctx Try.prog plDs [(8, Try.f8)]
theorem X_eventDraws_ok : CtxOk X_eventDraws := ctx_ok mixed puDs (fns_cons is_ldr fns_nil)
end V
end Go.Proofs.Ytgchccljmjmibaa
