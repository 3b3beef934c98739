/- The law EventFair: it holds. -/
import Derived.Test.YtgchccljmjmibaaFo
namespace Go.Proofs.Ytgchccljmjmibaa
open Go.RowKit
namespace V
namespace Ev
theorem a5_run (k : Int) (s : List Int) (r j a : Nat) (hr : r ≤ 6) (hj : j ≤ r) (ha : a ≤ 64) (h : ∀ b : Nat, b < a → (meV s a b).2 = 0 ∧ (r : Int) - j ≤ (meV s a b).1) : ∀ (d b fuel : Nat), b + d = a → d < fuel → iter st_a5 fuel (hd_a5 k s r j a b) = some (ex_a5 k s r j a)
  | 0, b, fuel + 1, hb, _ => by
    refine iter_out ?_
    show (sm_a5 k s r j a b).run = _
    unfold sm_a5
    rw [decide_eq_false (by omega)]
    rfl
  | d + 1, b, fuel + 1, hb, hf => by
    have hrun : (st_a5 (hd_a5 k s r j a b)).run = some (.inl (hd_a5 k s r j a ((b + 1 : Nat) : Int))) := by
      show (sm_a5 k s r j a b).run = _
      obtain ⟨m1, m2⟩ := h b (by omega)
      unfold sm_a5 m_a5
      rw [decide_eq_true (show (b : Int) < (a : Int) by omega), m1, W64_id (n := (r : Int) - j) (by omega) (by omega), decide_eq_false (show ¬ ((meV s a b).1 < (r : Int) - j) by omega), W64_id (n := (b : Int) + 1) (by omega) (by omega)]
      rfl
    rw [iter_in hrun]
    exact a5_run k s r j a hr hj ha h d (b + 1) fuel (by omega) (by omega)
theorem a4_run (k : Int) (s : List Int) (r j : Nat) (hr : r ≤ 6) (hj : j ≤ r) (h : ∀ a b : Nat, a < 2 ^ j → b < a → (meV s a b).2 = 0 ∧ (r : Int) - j ≤ (meV s a b).1) : ∀ (d a fuel : Nat), a + d = 2 ^ j → d < fuel → iter st_a4 fuel (hd_a4 k s r j a) = some (ex_a4 k s r j)
  | 0, a, fuel + 1, ha, _ => by
    refine iter_out ?_
    show (sm_a4 k s r j a).run = _
    unfold sm_a4
    rw [decide_eq_true (show 0 ≤ (j : Int) by omega), p2_ok j (by omega), decide_eq_false (by omega)]
    rfl
  | d + 1, a, fuel + 1, ha, hf => by
    have hle : 2 ^ j ≤ 2 ^ 6 := Nat.pow_le_pow_right (by omega) (by omega)
    have hrun : (st_a4 (hd_a4 k s r j a)).run = some (.inl (hd_a4 k s r j ((a + 1 : Nat) : Int))) := by
      show (sm_a4 k s r j a).run = _
      unfold sm_a4
      have := a5_run k s r j a hr hj (by omega) (fun b hb => h a b (by omega) hb) a 0 (a + 1) (by omega) (by omega)
      rw [show ((0 : Nat) : Int) = 0 from rfl] at this
      rw [decide_eq_true (show 0 ≤ (j : Int) by omega), p2_ok j (by omega), decide_eq_true (show (a : Int) < ((2 ^ j : Nat) : Int) by omega), show Int.toNat (a : Int) + 1 = a + 1 by omega, this]
      show some (Sum.inl (hd_a4 k s r j (W64 ((a : Int) + 1)))) = _
      rw [W64_id (n := (a : Int) + 1) (by omega) (by omega)]
      rfl
    rw [iter_in hrun]
    exact a4_run k s r j hr hj h d (a + 1) fuel (by omega) (by omega)
theorem a3_run (K : Nat) (s : List Int) (r : Nat) (hr : r ≤ 6) (h : ∀ j a b : Nat, j ≤ r → 2 ^ j ≤ K → a < 2 ^ j → b < a → (meV s a b).2 = 0 ∧ (r : Int) - j ≤ (meV s a b).1) : ∀ (d j fuel : Nat), j + d = r + 1 → j ≤ 6 ∨ d = 0 → d < fuel → iter st_a3 fuel (hd_a3 K s r j) = some ex_a3
  | 0, j, fuel + 1, hj, _, _ => by
    refine iter_out ?_
    show (sm_a3 K s r j).run = _
    unfold sm_a3
    rw [decide_eq_true (show 0 ≤ (j : Int) by omega), decide_eq_false (show ¬ ((j : Int) ≤ (r : Int)) by omega)]
    cases decide (p2 j ≤ (K : Int)) <;> rfl
  | d + 1, j, fuel + 1, hj, h6, hf => by
    have hj6 : j ≤ 6 := by omega
    by_cases hk : 2 ^ j ≤ K
    · have hrun : (st_a3 (hd_a3 K s r j)).run = some (.inl (hd_a3 K s r ((j + 1 : Nat) : Int))) := by
        show (sm_a3 K s r j).run = _
        unfold sm_a3
        have := a4_run K s r j hr (by omega) (fun a b ha hb => h j a b (by omega) hk ha hb) (2 ^ j) 0 (2 ^ j + 1) (by omega) (by omega)
        rw [show ((0 : Nat) : Int) = 0 from rfl] at this
        rw [decide_eq_true (show 0 ≤ (j : Int) by omega), p2_ok j hj6, decide_eq_true (show ((2 ^ j : Nat) : Int) ≤ (K : Int) by omega), decide_eq_true (show (j : Int) ≤ (r : Int) by omega), show Int.toNat ((2 ^ j : Nat) : Int) + 1 = 2 ^ j + 1 from rfl, this]
        show some (Sum.inl (hd_a3 K s r (W64 ((j : Int) + 1)))) = _
        rw [W64_id (n := (j : Int) + 1) (by omega) (by omega)]
        rfl
      rw [iter_in hrun]
      exact a3_run K s r hr h d (j + 1) fuel (by omega) (by omega) (by omega)
    · refine iter_out ?_
      show (sm_a3 K s r j).run = _
      unfold sm_a3
      rw [decide_eq_true (show 0 ≤ (j : Int) by omega), p2_ok j hj6, decide_eq_false (by omega)]
      rfl
theorem fa_main (N K : Nat) (hN : N ≤ 64) (hN2 : 2 ≤ N) (hK : K ≤ N) (l : List Int) (hl : l.length = N - K) (h0 : ∀ x ∈ l, 0 ≤ x) : (w0_fa N K (drwV N K l)).sat (fun _ => True) := by
  obtain ⟨g1, g2, g3, g4⟩ := lg_ok N hN hN2
  obtain ⟨z1, z2, z3, z4, z5⟩ := sz_ok N hN hN2
  have hr := rk_ok hK hl h0
  have ed : drwV N K l = ((ordT (2 ^ lgI N)).map (slF N (rkF N K l)), 0) := by
    unfold drwV
    rw [decide_eq_false (show ¬ ((N : Int) < 2) by omega), decide_eq_false (show ¬ ((N : Int) > 64) by omega), decide_eq_false (show ¬ ((K : Int) < 0) by omega), decide_eq_false (show ¬ ((K : Int) > N) by omega), show ((l.length : Int) != (N : Int) - K) = false by rw [bne_eq_false_iff_eq]; omega]
    have ha : l.any (p_Lot ()) = false := by
      rw [List.any_eq_false]
      intro x hx
      have := h0 x hx
      unfold p_Lot
      simp
      omega
    rw [ha, show (szI N).toNat = 2 ^ lgI N by rw [g1]; rfl]
    rfl
  have ho := ord_all g3
  have hs := sl_ok N (lgI N) g3 (rkF N K l)
  have h1 : N ≤ 2 ^ lgI N := by omega
  have h2 : 2 ^ lgI N < 2 * N := by omega
  rw [ed]
  generalize hes : (ordT (2 ^ lgI N)).map (slF N (rkF N K l)) = s at hs
  have hd := sl_dr hN g3 hr hs h1 h2 g2
  have hlen : s.length = 2 ^ lgI N := hs.len
  have hle : 2 ^ lgI N ≤ 2 ^ 6 := Nat.pow_le_pow_right (by omega) g3
  unfold w0_fa
  rw [show ((s, 0) : List Int × Int).2 = 0 from rfl, show ((s, 0) : List Int × Int).1 = s from rfl, hd]
  simp only [bne_self_eq_false, cond_false]
  unfold mkT
  refine sat_must (decide_eq_true (by omega)) ?_
  have a1 := a1_run N K s (List.replicate N false) 0 (lgI N) g3 hlen (lgI N) 0 8 (by omega) (by omega)
  rw [show ((0 : Nat) : Int) = 0 from rfl] at a1
  rw [show Int.toNat (N : Int) = N by omega, a1]
  show (w1_fa N K s (List.replicate N false) (lgI N) 0).sat _
  unfold w1_fa
  have a2 := a2_run N K (lgI N) s hN (by omega) (fun i hi => by
    rcases sl_in hN g3 hr hs h1 i hi with h | ⟨x, _, _, _, x4, x5⟩
    · exact .inl h.1
    · exact .inr ⟨x4, x5⟩) (fun i j hi hj hne e => sl_inj hN g3 hr hs h1 i j hi hj hne e) s.length 0 (s.length + 1) (List.replicate N false) (by omega) ⟨by simp, fun x hx => ⟨fun h => by rw [getA_lt (by simpa using hx)] at h; simp at h, fun ⟨j, hj, _⟩ => absurd hj (by omega)⟩⟩ (by omega)
  rw [show ((s.take 0).count (-1) : Nat) = 0 by simp, show ((0 : Nat) : Int) = 0 from rfl] at a2
  rw [a2]
  show (w2_fa N K s (lgI N) ((s.count (-1) : Nat) : Int)).sat _
  unfold w2_fa
  have hcnt : ((s.count (-1) : Nat) : Int) = (s.length : Int) - N := by
    have e : s.count (-1) = (ordT (2 ^ lgI N)).countP (fun x => decide ((N : Int) ≤ x)) := by
      rw [← hes, List.count, List.countP_map]
      refine List.countP_congr fun x hx => ?_
      have hx' := ho.rng x hx
      simp only [Function.comp, beq_iff_eq, decide_eq_true_iff]
      unfold slF
      by_cases hxn : x < (N : Int)
      · rw [decide_eq_true hxn]
        simp only [cond_true]
        have := hr.rng _ (getA_mem (l := rkF N K l) (i := x.toNat) (by rw [hr.len]; omega))
        exact ⟨fun h => absurd h (by omega), fun h => absurd h (by omega)⟩
      · rw [decide_eq_false hxn]
        exact ⟨fun _ => Int.not_lt.1 hxn, fun _ => rfl⟩
    rw [show (szI N).toNat = 2 ^ lgI N by rw [g1]; rfl] at g4
    rw [e, g4, g1, hlen]
  rw [W64_id (n := (s.length : Int) - N) (by omega) (by omega), hcnt, W64_id (n := 2 * (N : Int)) (by omega) (by omega)]
  simp only [bne_self_eq_false, cond_false]
  rw [decide_eq_false (by omega), decide_eq_true (show 0 ≤ ((lgI N : Nat) : Int) by omega), p2_ok (lgI N) g3, hlen]
  simp only [bne_self_eq_false, cond_false, cond_true]
  have a3 := a3_run K s (lgI N) g3 (fun j a b hj hjk ha hb => sl_meet hN g3 hr hs h1 h2 g2 hK j a b hj hjk ha hb) (lgI N) 1 (Int.toNat (lgI N : Int) + 2) (by omega) (.inl (by omega)) (by omega)
  rw [show ((1 : Nat) : Int) = 1 from rfl] at a3
  rw [a3]
  trivial
theorem T_fa_ok (n u : Int) (lo : List Int) (hn : 0 ≤ n ∧ n ≤ 255) (hu : 0 ≤ u ∧ u ≤ 255) (hlo : ∀ x ∈ lo, 0 ≤ x ∧ x ≤ 65535) : (T_fa n u lo).sat (fun _ => True) := by
  unfold T_fa
  have e1 : W64 (2 + Int.tmod (W64 n) 63) = 2 + n % 63 := by
    rw [W64_id (n := n) (by omega) (by omega), Int.tmod_eq_emod_of_nonneg hn.1, W64_id (by omega) (by omega)]
  rw [e1]
  obtain ⟨N, hNe⟩ := Int.eq_ofNat_of_zero_le (show 0 ≤ 2 + n % 63 by omega)
  rw [hNe]
  unfold T_fa'
  rw [W64_id (n := (N : Int) + 1) (by omega) (by omega), show ((N : Int) + 1 != 0) = true by rw [bne_iff_ne]; omega, W64_id (n := u) (by omega) (by omega), Int.tmod_eq_emod_of_nonneg hu.1]
  simp only [cond_true]
  obtain ⟨K, hKe⟩ := Int.eq_ofNat_of_zero_le (show 0 ≤ u % ((N : Int) + 1) from Int.emod_nonneg _ (by omega))
  have hK : K ≤ N := by
    have := Int.emod_lt_of_pos u (show 0 < (N : Int) + 1 by omega)
    omega
  rw [hKe]
  obtain ⟨l', q1, q2, q3⟩ := a0_run lo N K (by omega) hK hlo (N - K) 0 (N + 1) [] (by omega) rfl (fun _ h => nomatch h) (by omega)
  rw [show ((0 : Nat) : Int) = 0 from rfl] at q3
  rw [show Int.toNat (N : Int) + 1 = N + 1 by omega, q3]
  exact fa_main N K (by omega) (by omega) hK l' q1 q2
end Ev
open Ev
theorem l_a0 : LoopOk Try.prog 7 (lb_fa 0) (loopSum L_a0 E_a0 (finX [.exit 0] st_a0 fu_a0)) := loopOk_x0 XFa_ok 6 _ L_a0 E_a0 (fun _ => Nat.le_refl _) [.exit 0] _ fu_a0 e_a0
theorem l_a1 : LoopOk Try.prog 7 (lb_fa 1) (loopSum L_a1 E_a1 (finX [.exit 2] st_a1 fu_a1)) := loopOk_x0 XFa_ok 6 _ L_a1 E_a1 (fun _ => Nat.le_refl _) [.exit 2] _ fu_a1 e_a1
theorem l_a2 : LoopOk Try.prog 7 (lb_fa 2) (loopSum L_a2 E_a2 (finX [.ret, .exit 4] st_a2 fu_a2)) := loopOk_x0 XFa_ok 6 _ L_a2 E_a2 (fun e => by cases e <;> exact Nat.le_refl _) [.ret, .exit 4] _ fu_a2 e_a2
theorem l_a5 : LoopOk Try.prog 7 (lb_fa 5) (loopSum L_a5 E_a5 (finX [.ret, .exit 10] st_a5 fu_a5)) := loopOk_x0 XFa_ok 6 _ L_a5 E_a5 (fun e => by cases e <;> exact Nat.le_refl _) [.ret, .exit 10] _ fu_a5 e_a5
theorem loops_a4 : loopsOf (lb_fa 4) = [lb_fa 5] := by kernel_rfl
theorem key_a5 : keyOf (lb_fa 5) = 36 := by kernel_rfl
theorem l_a4 : LoopOk Try.prog 7 (lb_fa 4) (loopSum L_a4 E_a4 (finX [.ret, .exit 8] st_a4 fu_a4)) := loopOk_x XFa_ok 6 _ Lt_a4 (fun d hd f hf => by
  rw [loops_a4, List.mem_singleton] at hd
  subst hd
  rw [key_a5] at hf
  cases hf
  exact l_a5) L_a4 E_a4 (fun e => by cases e <;> exact Nat.le_refl _) [.ret, .exit 8] _ fu_a4 e_a4
theorem loops_a3 : loopsOf (lb_fa 3) = [lb_fa 4, lb_fa 5] := by kernel_rfl
theorem key_a4 : keyOf (lb_fa 4) = 33 := by kernel_rfl
theorem l_a3 : LoopOk Try.prog 7 (lb_fa 3) (loopSum L_a3 E_a3 (finX [.ret, .exit 6] st_a3 fu_a3)) := loopOk_x XFa_ok 6 _ Lt_a3 (fun d hd f hf => by
  rw [loops_a3] at hd
  rcases List.mem_cons.1 hd with rfl | hd
  · rw [key_a4] at hf
    cases hf
    exact l_a4
  · rw [List.mem_singleton] at hd
    subst hd
    rw [key_a5] at hf
    cases hf) L_a3 E_a3 (fun e => by cases e <;> exact Nat.le_refl _) [.ret, .exit 6] _ fu_a3 e_a3
theorem X_eventFair_ok : CtxOk X_eventFair := ctxL_ok mixed puFa (fns_cons is_lfa fns_nil) (loops_cons (loops_of (ds := [lb_fa 0, lb_fa 1, lb_fa 2, lb_fa 3, lb_fa 4, lb_fa 5]) (by kernel_rfl) ⟨one_key (k := 5) (by kernel_rfl) rfl l_a0, one_key (k := 16) (by kernel_rfl) rfl l_a1, one_key (k := 19) (by kernel_rfl) rfl l_a2, one_key (k := 30) (by kernel_rfl) rfl l_a3, no_key (k := 33) (by kernel_rfl) rfl, no_key (k := 36) (by kernel_rfl) rfl, trivial⟩) loops_nil)
theorem eventFair_sat : LawSat X_eventFair 7 cs_eventFair 7 := lawSat 7 (fun y => T_fa y.1 y.2.1 y.2.2.1) T_fa_eq fun y hw => T_fa_ok y.1 y.2.1 y.2.2.1 hw.1 hw.2.1 hw.2.2.1.2
end V
end Go.Proofs.Ytgchccljmjmibaa
