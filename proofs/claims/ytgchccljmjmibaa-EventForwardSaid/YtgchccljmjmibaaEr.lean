/- The law EventForward: it holds. -/
import Derived.Test.YtgchccljmjmibaaEq
namespace Go.Proofs.Ytgchccljmjmibaa
open Go.RowKit
namespace V
namespace Ev
theorem dr_ok {s : List Int} (h : (drV s != 0) = false) : (∃ k, k + 1 ≤ 6 ∧ s.length = 2 ^ (k + 1)) ∧ allI (okD s) 0 s = true := by
  have hl := dr_len h
  unfold drV at h
  rw [decide_eq_false (show ¬ ((s.length : Int) > 64) by omega)] at h
  cases h3 : powB (s.length : Int) with
  | false => rw [h3] at h; cases h
  | true =>
    rw [h3] at h
    obtain ⟨k, hk, e⟩ := pow_ex hl.2 h3
    cases h4 : decide ((s.length : Int) < 2) with
    | true => rw [h4] at h; cases h
    | false =>
      rw [h4] at h
      have := of_decide_eq_false h4
      refine ⟨?_, ?_⟩
      · cases k with
        | zero => rw [e] at this; simp at this
        | succ k => exact ⟨k, hk, e⟩
      · cases h5 : allI (okD s) 0 s with
        | true => rfl
        | false => rw [h5] at h; cases h
/-- a player stands once -/
theorem count_once (s : List Int) (w : Int) (hw : w ≠ -1) (h : ∀ (i : Nat) (hi : i < s.length), okD s i s[i] = true) : s.count w ≤ 1 := by
  have key : ∀ j, j ≤ s.length → (s.take j).count w ≤ 1 := by
    intro j
    induction j with
    | zero => intro _; simp
    | succ j ih =>
      intro hj
      have hj' : j < s.length := by omega
      rw [List.take_succ_eq_append_getElem hj', List.count_append]
      by_cases e : s[j] = w
      · have ho := h j hj'
        unfold okD at ho
        simp only [Bool.and_eq_true, Bool.or_eq_true, beq_iff_eq, Bool.not_eq_true'] at ho
        have h1 : (s.take j).contains s[j] = false := by
          rcases ho.2.1 with h | h
          · exact absurd (e.symm.trans h) hw
          · exact h
        have h2 : (s.take j).count w = 0 := by
          rw [List.count_eq_zero]
          intro hm
          rw [← e] at hm
          rw [List.contains_iff_mem.2 hm] at h1
          cases h1
        rw [h2, e]
        simp
      · have h2 : [s[j]].count w = 0 := List.count_eq_zero.2 (by simp; exact fun h => e h.symm)
        have := ih (by omega)
        omega
  have := key s.length (Nat.le_refl _)
  rwa [List.take_length] at this
/-- no two Byes meet -/
def noBB : List Int → Prop
  | a :: b :: r => ¬ (a = -1 ∧ b = -1) ∧ noBB r
  | _ => True
theorem noBB_of : ∀ (j : Nat) (l : List Int), l.length = 2 * j → (∀ k (h : 2 * k + 1 < l.length), ¬ (l[2 * k]'(by omega) = -1 ∧ l[2 * k + 1] = -1)) → noBB l
  | 0, [], _, _ => trivial
  | j + 1, a :: b :: r, hl, h => by
    refine ⟨h 0 (by simp), noBB_of j r (by simp at hl; omega) fun k hk => ?_⟩
    have := h (k + 1) (by simp; omega)
    simpa [show 2 * (k + 1) = 2 * k + 1 + 1 by omega] using this
  | 0, _ :: _, h, _ => by simp at h
  | j + 1, [], h, _ => by simp at h
  | j + 1, [_], h, _ => by simp at h; omega
theorem winV_bye (o : Option (TCT cSc)) {a b : Int} (h : ¬ (a = -1 ∧ b = -1)) : winV o a b ≠ -1 := by
  unfold winV
  by_cases h1 : a = -1
  · rw [h1]
    simp only [beq_self_eq_true, cond_true]
    exact fun h2 => h ⟨h1, h2⟩
  · rw [show (a == -1) = false by simpa using h1]
    simp only [cond_false]
    by_cases h2 : b = -1
    · rw [h2]; exact h1
    · rw [show (b == -1) = false by simpa using h2]
      simp only [cond_false]
      cases (o.isSome && (a != -2 && b != -2)) with
      | false => simp only [cond_false]; omega
      | true =>
        simp only [cond_true]
        cases decide ((or0 o).2.2.1 = 0)
        · exact h2
        · exact h1
theorem lv_bye (m : cMp) : ∀ (j : Nat) (now next : List Int) (out : List (TCT cPq)), now.length = 2 * j → noBB now → (∀ x ∈ next, x ≠ -1) → ∀ x ∈ (lv m now next out).1, x ≠ -1
  | 0, [], next, out, _, _, h => h
  | j + 1, a :: b :: r, next, out, hl, hb, h => by
    refine lv_bye m j r _ _ (by simp at hl; omega) hb.2 ?_
    intro x hx
    rcases List.mem_append.1 hx with hx | hx
    · exact h x hx
    · rw [List.mem_singleton] at hx
      rw [hx]
      exact winV_bye _ hb.1
  | 0, _ :: _, _, _, h, _, _ => by simp at h
  | j + 1, [], _, _, h, _, _ => by simp at h
  | j + 1, [_], _, _, h, _, _ => by simp at h; omega
theorem siQ_bye (m : cMp) : ∀ (d : Nat) (q : List Int) (out : List (TCT cPq)), (∀ x ∈ q, x ≠ -1) → ∀ x ∈ (siQ m d q out).1, x ≠ -1
  | 0, _, _, h => h
  | d + 1, a :: b :: r, out, h => by
    refine siQ_bye m d _ _ ?_
    intro x hx
    rcases List.mem_append.1 hx with hx | hx
    · exact h x (by simp [hx])
    · rw [List.mem_singleton] at hx
      rw [hx]
      exact winV_bye _ fun hh => h a (by simp) hh.1
  | d + 1, [], _, h => h
  | d + 1, [_], _, h => h
theorem ch_ok (s : List Int) (l : List (TCT cSc)) (h1 : (drV s != 0) = false) (h2 : (chkV l != 0) = false) : (z_fw s l (sdO s l)).sat (fun _ => True) := by
  obtain ⟨⟨k, hk, e⟩, hall⟩ := dr_ok h1
  have hl := dr_len h1
  have hpow : 2 ^ (k + 1) = 2 * 2 ^ k := by rw [Nat.pow_succ]; omega
  have hpos : 0 < 2 ^ k := Nat.two_pow_pos _
  unfold z_fw ch_fw chaV
  rw [show (alV s l != 0) = false by unfold alV; rw [h1]; exact h2]
  simp only [cond_false]
  cases h3 : (sdW s l == -2) with
  | true => trivial
  | false =>
    have hw : sdW s l ≠ -2 := by simpa using h3
    simp only [cond_false, bne_self_eq_false]
    have ho := (allI_iff (okD s) s 0).1 hall
    simp only [Nat.zero_add] at ho
    have hq := siQ_len (cntM l) (s.length - 1) s [] (by omega)
    have hone : (siQ (cntM l) (s.length - 1) s []).1 = [sdW s l] := by
      show (siQ (cntM l) (s.length - 1) s []).1 = [getA (siQ (cntM l) (s.length - 1) s []).1 0 0]
      match hx : (siQ (cntM l) (s.length - 1) s []).1, hq.1 with
      | [y], _ => rfl
    have hbb : noBB s := noBB_of (2 ^ k) s (by omega) fun j hj hh => by
      have := ho (2 * j + 1) hj
      unfold okD at this
      simp only [Bool.and_eq_true, Bool.or_eq_true, bne_iff_ne] at this
      have hp : par (2 * j + 1) = 2 * j := by unfold par; rw [show ((2 * j + 1) % 2 == 0) = false by simp]; rfl
      rw [hp, getA_lt (by omega)] at this
      rcases this.2.2 with h | h
      · exact h hh.2
      · exact h hh.1
    have hne : sdW s l ≠ -1 := by
      have hq2 := siQ_lv (cntM l) (2 ^ k) (2 ^ k - 1) s [] [] (by omega)
      rw [List.append_nil, show 2 ^ k + (2 ^ k - 1) = s.length - 1 by omega] at hq2
      have := siQ_bye (cntM l) (2 ^ k - 1) _ (lv (cntM l) s [] []).2 (lv_bye (cntM l) (2 ^ k) s [] [] (by omega) hbb (fun x hx => nomatch hx))
      rw [← hq2, hone] at this
      exact this _ (List.mem_singleton.2 rfl)
    have hc := count_once s (sdW s l) hne ho
    have hA : (sdO s l).length = s.length - 1 := by
      show (siQ (cntM l) (s.length - 1) s []).2.length = _
      rw [hq.2]; simp
    have e2 : W64 (Int.tdiv (s.length : Int) 2) = ((2 ^ k : Nat) : Int) := by
      rw [e, show ((2 ^ (k + 1) : Nat) : Int) = ((2 ^ k : Nat) : Int) * 2 by omega, Int.mul_tdiv_cancel _ (by omega)]
      exact W64_id (by omega) (by omega)
    have hlt : k + 1 < 2 ^ (k + 1) := Nat.lt_two_pow_self
    have := f2_run (cntM l) (sdO s l) (sdW s l) (by omega) hw k s [] ((sdO s l).length + 2) e hc hone rfl (by omega)
    rw [e2]
    rw [show (([] : List (TCT cPq)).length : Nat) = 0 from rfl, show ((0 : Nat) : Int) = 0 from rfl] at this
    rw [this]
    trivial
theorem T_fw_ok (s : List Int) (l : List (TCT cSc)) (x : TCT cSc) : (T_fw s l x).sat (fun _ => True) := by
  unfold T_fw
  refine sat_cond (fun _ => trivial) fun h100 => sat_cond (fun _ => trivial) fun h60 => ?_
  have h60 := of_decide_eq_false h60
  cases ha : (alV s l != 0) with
  | true =>
    have e : sidV s l = ([], alV s l) := by unfold sidV; rw [ha]; rfl
    rw [e, show (([], alV s l) : List (TCT cPq) × Int).2 = alV s l from rfl, ha]
    trivial
  | false =>
    have e : sidV s l = (sdO s l, 0) := by unfold sidV; rw [ha]; rfl
    have h1 : (drV s != 0) = false := by
      cases h1 : (drV s != 0) with
      | false => rfl
      | true => unfold alV at ha; rw [h1] at ha; rw [cond_true] at ha; rw [h1] at ha; cases ha
    have h2 : (chkV l != 0) = false := by unfold alV at ha; rw [h1] at ha; exact ha
    have hl := dr_len h1
    have hO : (sdO s l).length = s.length - 1 := by
      show (siQ (cntM l) (s.length - 1) s []).2.length = _
      rw [(siQ_len (cntM l) (s.length - 1) s [] (by omega)).2]; simp
    have hch := ch_ok s l h1 h2
    rw [e]
    simp only [bne_self_eq_false, cond_false]
    rw [hO, W64_id (n := (s.length : Int) - 1) (by omega) (by omega), show (((s.length - 1 : Nat) : Int) != (s.length : Int) - 1) = false by simp; omega]
    simp only [cond_false]
    unfold m_fw
    cases h5 : ((coV l x.1).2 == 5) with
    | false => exact hch
    | true =>
      rw [app_ok (by simp; omega) (by omega), app_ok (by simp; omega) (by omega)]
      simp only [cond_true]
      unfold b_fw
      cases h6 : ((sidV s (l ++ [eS x])).2 == 0) with
      | false => exact hch
      | true =>
        have ha' : (alV s (l ++ [eS x]) != 0) = false := by
          cases h : (alV s (l ++ [eS x]) != 0) with
          | false => rfl
          | true =>
            unfold sidV at h6
            rw [h] at h6
            have h7 : alV s (l ++ [eS x]) = 0 := by simpa using h6
            rw [h7] at h
            cases h
        have e' : sidV s (l ++ [eS x]) = (sdO s (l ++ [eS x]), 0) := by unfold sidV; rw [ha']; rfl
        have hO' : (sdO s (l ++ [eS x])).length = s.length - 1 := by
          show (siQ (cntM (l ++ [eS x])) (s.length - 1) s []).2.length = _
          rw [(siQ_len (cntM (l ++ [eS x])) (s.length - 1) s [] (by omega)).2]; simp
        rw [e']
        simp only [cond_true]
        rw [hO, hO']
        simp only [bne_self_eq_false, cond_false]
        have hn : cntM l x.1 = none := by
          unfold coV at h5
          rw [h2] at h5
          cases hc : cntM l x.1 with
          | none => rfl
          | some v => rw [hc] at h5; cases h5
        have hm : ∀ k, cntM l k = none ∨ cntM l k = cntM (l ++ [eS x]) k := by
          intro k
          have e3 : cntM (l ++ [eS x]) = upd (cntM l) x.1 (eS x) := by
            show (l ++ [eS x]).foldl cntS _ = _
            rw [List.foldl_append]
            show cntS (cntM l) (eS x) = _
            unfold cntS
            rw [show (eS x).1 = x.1 from rfl, hn]
            rfl
          by_cases hk : k = x.1
          · exact Or.inl (by rw [hk]; exact hn)
          · exact Or.inr (by rw [e3, upd_other _ _ hk])
        have hmono : all2 leP (sdO s l) (sdO s (l ++ [eS x])) := siQ_mono hm (s.length - 1) s s [] [] (leI_refl s) trivial
        have := f0_run s l (sdO s l) (sdO s (l ++ [eS x])) (by rw [hO]; show ((s.length - 1 : Nat) : Int) ≤ 9223372036854775807; omega) hmono
        rw [hO] at this
        rw [this]
        exact hch
end Ev
open Ev
theorem l_f3 : LoopOk Try.prog 10 lb_f3 (loopSum L_f3 E_f3 (finX [.exit 6] st_f3 fu_f3)) := loopOk_x0 XF0_ok 6 _ L_f3 E_f3 (fun _ => Nat.le_refl _) [.exit 6] _ fu_f3 e_f3
theorem l_f0 : LoopOk Try.prog 10 lb_f0 (loopSum L_f0 E_f0 (finX [.ret, .exit 0] st_f0 fu_f0)) := loopOk_x0 XF0_ok 6 _ L_f0 E_f0 (fun e => by cases e <;> exact Nat.le_refl _) [.ret, .exit 0] _ fu_f0 e_f0
theorem loops_f2 : loopsOf lb_f2 = [lb_f3] := by kernel_rfl
theorem key_f3 : keyOf lb_f3 = 31 := by kernel_rfl
theorem l_f2 : LoopOk Try.prog 10 lb_f2 (loopSum L_f2 E_f2 (finX [.ret, .exit 4] st_f2 fu_f2)) := loopOk_x XF0_ok 6 _ Lt_f2 (fun d hd f hf => by
  rw [loops_f2, List.mem_singleton] at hd
  subst hd
  rw [key_f3] at hf
  cases hf
  exact l_f3) L_f2 E_f2 (fun e => by cases e <;> exact Nat.le_refl _) [.ret, .exit 4] _ fu_f2 e_f2
theorem X_eventForward_ok : CtxOk X_eventForward := ctxL_ok mixed puFw (fns_cons is_lfw fns_nil) (loops_cons (loops_of (ds := [lb_f0, lb_f1, lb_f2, lb_f3]) (by kernel_rfl) ⟨one_key (k := 15) (by kernel_rfl) rfl l_f0, no_key (k := 18) (by kernel_rfl) rfl, one_key (k := 27) (by kernel_rfl) rfl l_f2, no_key (k := 31) (by kernel_rfl) rfl, trivial⟩) loops_nil)
theorem eventForward_sat : LawSat X_eventForward 10 cs_eventForward 7 := lawSat 7 (fun y => T_fw y.1 y.2.1 y.2.2.1) T_fw_eq fun y _ => T_fw_ok y.1 y.2.1 y.2.2.1
end V
end Go.Proofs.Ytgchccljmjmibaa
