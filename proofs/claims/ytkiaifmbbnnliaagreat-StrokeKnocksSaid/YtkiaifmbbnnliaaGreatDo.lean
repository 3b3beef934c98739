import Derived.Test.YtkiaifmbbnnliaaGreatDn
namespace Go.Proofs.YtkiaifmbbnnliaaGreat
open Go.RowKit
namespace V
namespace St
theorem seF_len {bl : List (TCT cBall)} {c : TCT cBnc} {t st w fl : Int} {n : Nat} {s : S2} {r : Mots × Kns} (h : seF bl c t st w fl n s = .inl r) : r.1.length = s.1.length := by
  unfold seF at h
  cases he : (seS bl c w fl n s).2.2.1 != 0 with
  | true => rw [he] at h; cases h
  | false =>
    rw [he] at h
    cases h
    exact scV_len
theorem Y_se_gS {g : TCT cGr} {s : TCT cSt} {ms : Mots} {b : Int} (hs : (g.1.1.size : Int) ≤ maxK .i64) (h : StaOk g s) (hm : ms.length = (ballsG g).length) : Y_se (gS g s ms b) = some (seF (ballsG g) g.2.2.1 0 0 b 0 (ballsG g).length (ms, osT s, [])) := by
  unfold Y_se
  rw [show okGB (gS g s ms b) = true by
    unfold okGB
    simp only [Bool.and_eq_true, decide_eq_true_eq]
    refine ⟨okGM_iff.2 ⟨hs, hm, ?_, h.n8⟩, by show (0 : Nat) ≤ 900000; omega⟩
    show ([] ++ s.2.1 : List Bool).length = (ballsG g).length
    rw [List.nil_append]; exact h.o]
  rfl
theorem k1_sk_ok {os : List Bool} {w : TCT cBw} {ms : Mots} {ks : Kns} {n : Nat} (hb : 0 ≤ w.1 ∧ w.1 < (n : Int)) (hm : ms.length = n) : (k1_sk os w ms ks).sat (fun y => y = etaR (skF os w (.inl (ms, ks)))) := by
  unfold k1_sk skF
  simp only
  cases decide ((ks.length : Int) > 0) with
  | false => exact rfl
  | true =>
    simp only [cond_true]
    rw [chB_ok hb hm, chB_ok hb hm, chB_ok hb (mX_len.trans hm), chB_ok hb (mX_len.trans hm)]
    unfold k2_sk
    have hl : (skM ms w).length = n := by unfold skM; rw [mY_len, mX_len]; exact hm
    rw [chB_ok hb hl, chB_ok hb hl]
    unfold bigM
    cases bigB (getM (skM ms w) (Int.toNat w.1)).2.1.1 with
    | true => exact rfl
    | false => cases bigB (getM (skM ms w) (Int.toNat w.1)).2.1.2.1 <;> exact rfl
theorem k0_sk_ok {g : TCT cGr} {s : TCT cSt} {w : TCT cBw} (hs : (g.1.1.size : Int) ≤ maxK .i64) (h : StaOk g s) (hb : BwOk ((ballsG g).length : Int) w) : (k0_sk Y_se g s w).sat (fun y => y = etaR (skG g s w)) := by
  have tw := tw_ok hb.f hb.z hb.p
  have he : (twE w != 0) = false := bne_eq_false_iff_eq.2 tw.1
  unfold k0_sk skG
  rw [he]
  simp only [cond_false]
  have hms : ([] ++ s.1 : Mots).length = (ballsG g).length := by rw [List.nil_append]; exact h.m
  have hin : 0 ≤ w.1 ∧ w.1 < (([] ++ s.1 : Mots).length : Int) := ⟨hb.b.1, by rw [hms]; exact hb.b.2⟩
  cases w.2.2.2.1 == 4 with
  | true => simp only [cond_true]; rw [inN_ok hin, chB_ok hb.b hms]; exact rfl
  | false =>
    simp only [cond_false]
    rw [inN_ok hin, chB_ok hb.b hms]
    have hy := Y_se_gS (b := w.1) hs h (mSet_len (b := w.1) (v := twP w).trans hms)
    have e : mSet ([] ++ s.1) w.1 (twP w) = mSet (msT s) w.1 (twP w) := rfl
    rw [e] at hy ⊢
    cases hf : seF (ballsG g) g.2.2.1 0 0 w.1 0 (ballsG g).length (mSet (msT s) w.1 (twP w), osT s, []) with
    | inr x => rw [hf] at hy; rw [thY_r hy, show (x != 0) = true from bne_iff_ne.2 (seF_ne hf)]; exact rfl
    | inl r =>
      rw [hf] at hy
      rw [thY_l hy]
      obtain ⟨ms, ks⟩ := r
      have hl := seF_len hf
      exact k1_sk_ok hb.b (hl.trans (mSet_len.trans h.m))
theorem T_sk_ok {g : TCT cGr} {s : TCT cSt} {w : TCT cBw} (hs : (g.1.1.size : Int) ≤ maxK .i64) : (T_sk Y_se g s w).sat (fun y => y = etaR (skV g s w)) := by
  unfold T_sk skV
  rw [szT_ok hs, szT_ok hs, bwT_eq]
  cases h1 : staE g s != 0 with
  | true => exact rfl
  | false =>
    have h := sta_ok (bne_eq_false_iff_eq.1 h1)
    have hn1 := h.n1
    have hn8 := h.n8
    have hm := h.m
    have ho := h.o
    simp only [cond_false]
    cases h2 : bwB ((ballsG g).length : Int) w with
    | true => exact rfl
    | false =>
      have hb := bw_ok h2
      simp only [cond_false]
      cases stillB s with
      | false => exact rfl
      | true =>
        simp only [Bool.not_true, cond_false, Bool.false_or]
        rw [inN_ok ⟨hb.b.1, by rw [ho]; exact hb.b.2⟩]
        cases getA (osT s) (Int.toNat w.1) (dflt .b) with
        | true => exact rfl
        | false =>
          simp only [cond_false]
          rw [neT_ok (by omega), acT_ok (by omega) (by decide), neT_ok (by omega), acT_ok (by omega) (by decide)]
          exact k0_sk_ok hs h hb
theorem q_Strike4 : PureOk Tryz.prog 16 s_Strike4 := q_by X_sk_ok 8 (fun x => T_sk Y_se x.1 x.2.1 x.2.2.1) (T_sk_eq Y_se) fun _ hok _ => T_sk_ok (of_decide_eq_true hok)
end St
end V
end Go.Proofs.YtkiaifmbbnnliaaGreat
