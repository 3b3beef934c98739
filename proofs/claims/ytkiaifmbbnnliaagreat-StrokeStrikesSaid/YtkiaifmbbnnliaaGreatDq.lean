import Derived.Test.YtkiaifmbbnnliaaGreatDp
namespace Go.Proofs.YtkiaifmbbnnliaaGreat
open Go.RowKit
namespace V
namespace St
theorem sta_sm {g : TCT cGr} {s : TCT cSt} (h : StaOk g s) : SM (msT s) := fun j => by
  by_cases hj : j < (msT s).length
  · have := allI_get (d := dflt cMot) (msT s) 0 h.ok j hj
    rw [Nat.zero_add] at this
    unfold okS okO motE motB at this
    simp only [Bool.and_eq_true] at this
    exact this.1.2.2.1
  · unfold getM
    rw [getA_eq, List.getD_eq_getElem?_getD, List.getElem?_eq_none (Nat.le_of_not_lt hj)]; rfl
theorem strong_in {x y : Int} (hx : -2097152 ≤ x ∧ x ≤ 2097152) (hy : -2097152 ≤ y ∧ y ≤ 2097152) : strongB x y = true := by
  unfold strongB outB
  rw [decide_eq_false (show ¬ x < -16777216 by omega), decide_eq_false (show ¬ 16777216 < x by omega), decide_eq_false (show ¬ y < -16777216 by omega), decide_eq_false (show ¬ 16777216 < y by omega)]
  rfl
theorem blow_sm {g : TCT cGr} {s : TCT cSt} {w : TCT cBw} {n : Int} (h : StaOk g s) (hb : BwOk n w) : SM (mSet (msT s) w.1 (twP w)) := by
  have tw := tw_ok hb.f hb.z hb.p
  exact SM.set (sta_sm h) (strong_in tw.2.1 tw.2.2)
abbrev YR : Type := FL_rs.T → Option (MK ⊕ Int)
abbrev plRk4 : List (Nat × PureT) := (64, s_rfol) :: (62, s_Towards) :: (100, s_Check) :: (65, s_strong) :: plRT
theorem puRk4 : PuOk Tryz.prog plRk4 := puOk_cons is_rFollow4.plain q_rfol (puOk_cons is_refTowards.plain q_rTowards (puOk_cons is_rCk1.plain q_rCk1 (puOk_cons is_Strong.plain q_Strong puRT)))
noncomputable def fnRk : List (Nat × Func) := [(17, Tryz.f17), (61, Tryz.f61), (20, Tryz.f20)]
noncomputable def X_rk (Y : YR) : Ctx := ctxS Tryz.prog plRk4 fnRk [] [(63, spYR Y)]
theorem X_rk_ok : CtxOk (X_rk Y_rs) := ctxS_ok mixed puRk4 (fns_cons is_rStrike4 (fns_cons is_rblow4 (fns_cons is_rCopy fns_nil))) no_loops4 (fun p hp => by
  rw [List.mem_singleton] at hp; subst hp; exact ⟨is_rsettle.plain, sp_rs⟩)
def inC {β : Type} (ms : Mots) (b : Int) (k : Tree β) : Tree β := inN ms.length b (chB ms b k)
theorem inC_ok {β : Type} {ms : Mots} {b : Int} {k : Tree β} {n : Nat} (h : 0 ≤ b ∧ b < (n : Int)) (hl : ms.length = n) : inC ms b k = k := by
  unfold inC
  rw [inN_ok (by rw [hl]; exact h), chB_ok h hl]
def k2_rk (os : List Bool) (w : TCT cBw) (ks : Kns) (ms : Mots) : TTR := inC ms w.1 (bif !strongB (getM ms (Int.toNat w.1)).2.1.1 (getM ms (Int.toNat w.1)).2.1.2.1 then lfT (errT 4) else lfT (okSk ms os w.1 0 ks))
def k1_rk (os : List Bool) (w : TCT cBw) (ms : Mots) (ks : Kns) : TTR := bif decide ((ks.length : Int) > 0) then inC ms w.1 (bif decide (0 ≤ w.2.2.2.1 ∧ w.2.2.2.1 ≤ 4) then inC ms w.1 (inC (mX ms w.1 (fwD (twP w).1 w.2.2.2.1)) w.1 (bif decide (0 ≤ w.2.2.2.1 ∧ w.2.2.2.1 ≤ 4) then inC (mX ms w.1 (fwD (twP w).1 w.2.2.2.1)) w.1 (k2_rk os w ks (skM ms w)) else .fail)) else .fail) else lfT (okSk ms os w.1 0 ks)
def aRk (g : TCT cGr) (s : TCT cSt) (w : TCT cBw) : FL_rs.T := ((g, (mSet ([] ++ s.1) w.1 (twP w), ([] ++ s.2.1), w.1, 0, 0, ()), 0, 0, ()), ())
def k0_rk (Y : YR) (g : TCT cGr) (s : TCT cSt) (w : TCT cBw) : TTR := bif w.2.2.2.1 == 4 then inC ([] ++ s.1) w.1 (lfT (okSk (mSet ([] ++ s.1) w.1 (twP w)) ([] ++ s.2.1) w.1 8 []))
  else inC ([] ++ s.1) w.1 (thL (Y (aRk g s w)) ([], []) (fun e => lfT (errT e)) (fun r => k1_rk ([] ++ s.2.1) w r.1 r.2) esR)
def T_rk (Y : YR) (g : TCT cGr) (s : TCT cSt) (w : TCT cBw) : TTR := szT g.1 (bif staE g s != 0 then szT g.1 (lfT (errT (staE g s))) else bwR ((ballsG g).length : Int) w (lfT (errT 2)) (bif !stillB s then lfT (errT 10) else inN (osT s).length w.1 (bif getA (osT s) (Int.toNat w.1) (dflt .b) then lfT (errT 10) else acT (msT s) 48 (acT (osT s) 1 (k0_rk Y g s w)))))
theorem T_rk_eq (Y : YR) (x : TCTs [cGr, cSt, cBw]) : evFn (X_rk Y) 8 (.fn 17) (encAs [cGr, cSt, cBw] x) noHeap 0 (outK Tryz.prog [cSt, .sl cKn, cI]) = T_rk Y x.1 x.2.1 x.2.2.1 := by kernel_rfl
theorem Y_rs_a {g : TCT cGr} {s : TCT cSt} {w : TCT cBw} (h : StaOk g s) : Y_rs (aRk g s w) = some (seF (ballsG g) g.2.2.1 0 0 w.1 0 (ballsG g).length (mSet (msT s) w.1 (twP w), osT s, [])) := by
  unfold Y_rs
  have hm : (mSet ([] ++ s.1) w.1 (twP w)).length = (ballsG g).length := by
    rw [mSet_len, List.nil_append]; exact h.m
  have ho : ([] ++ s.2.1 : List Bool).length = (ballsG g).length := by rw [List.nil_append]; exact h.o
  rw [show okRs (aRk g s w).1.1 (aRk g s w).1.2.1 = true by
    unfold okRs
    simp only [Bool.and_eq_true, decide_eq_true_eq]
    exact ⟨hm, ho, h.n8⟩]
  rfl
theorem k1_rk_ok {os : List Bool} {w : TCT cBw} {ms : Mots} {ks : Kns} {n : Nat} (hb : BwOk (n : Int) w) (hm : ms.length = n) (hs : SM ms) : (k1_rk os w ms ks).sat (fun y => y = etaR (skF os w (.inl (ms, ks)))) := by
  unfold k1_rk skF
  simp only
  cases decide ((ks.length : Int) > 0) with
  | false => exact rfl
  | true =>
    simp only [cond_true]
    have hk : decide (0 ≤ w.2.2.2.1 ∧ w.2.2.2.1 ≤ 4) = true := decide_eq_true hb.k
    rw [inC_ok hb.b hm, hk, cond_true, inC_ok hb.b hm, inC_ok hb.b (mX_len.trans hm), cond_true, inC_ok hb.b (mX_len.trans hm)]
    unfold k2_rk
    have hl : (skM ms w).length = n := by unfold skM; rw [mY_len, mX_len]; exact hm
    rw [inC_ok hb.b hl, bigM_eq hs hb]
    cases strongB (getM (skM ms w) (Int.toNat w.1)).2.1.1 (getM (skM ms w) (Int.toNat w.1)).2.1.2.1 <;> exact rfl
theorem k0_rk_ok {g : TCT cGr} {s : TCT cSt} {w : TCT cBw} (h : StaOk g s) (hb : BwOk ((ballsG g).length : Int) w) : (k0_rk Y_rs g s w).sat (fun y => y = etaR (skG g s w)) := by
  have hms : ([] ++ s.1 : Mots).length = (ballsG g).length := by rw [List.nil_append]; exact h.m
  unfold k0_rk skG
  cases w.2.2.2.1 == 4 with
  | true => simp only [cond_true]; rw [inC_ok hb.b hms]; exact rfl
  | false =>
    simp only [cond_false]
    rw [inC_ok hb.b hms]
    have hy := Y_rs_a (w := w) h
    cases hf : seF (ballsG g) g.2.2.1 0 0 w.1 0 (ballsG g).length (mSet (msT s) w.1 (twP w), osT s, []) with
    | inr x => rw [hf] at hy; rw [thL_r hy (seF_es hf)]; exact rfl
    | inl r =>
      rw [hf] at hy
      rw [thL_l hy]
      obtain ⟨ms, ks⟩ := r
      have hl := seF_len hf
      have h0 : SM (mSet (msT s) w.1 (twP w)) := blow_sm h hb
      have h1 : SM ((mSet (msT s) w.1 (twP w), osT s, []) : S2).1 := h0
      have h2 : SM ((ms, ks) : Mots × Kns).1 := seF_sm hf h1
      have h3 : SM ms := h2
      exact k1_rk_ok hb (hl.trans (mSet_len.trans h.m)) h3
theorem T_rk_ok {g : TCT cGr} {s : TCT cSt} {w : TCT cBw} (hs : (g.1.1.size : Int) ≤ maxK .i64) : (T_rk Y_rs g s w).sat (fun y => y = etaR (skV g s w)) := by
  unfold T_rk skV
  rw [szT_ok hs, bwR_eq]
  cases h1 : staE g s != 0 with
  | true => rw [cond_true, szT_ok hs]; exact rfl
  | false =>
    have h := sta_ok (bne_eq_false_iff_eq.1 h1)
    have hn8 := h.n8
    have hm := h.m
    have ho := h.o
    simp only [cond_false]
    cases h2 : bwB ((ballsG g).length : Int) w with
    | true => exact rfl
    | false =>
      have hb := bw_ok h2
      simp only [cond_false]
      cases stillB s with
      | false => exact rfl
      | true =>
        simp only [Bool.not_true, cond_false, Bool.false_or]
        rw [inN_ok ⟨hb.b.1, by rw [ho]; exact hb.b.2⟩]
        cases getA (osT s) (Int.toNat w.1) (dflt .b) with
        | true => exact rfl
        | false =>
          simp only [cond_false]
          rw [acT_ok (by omega) (by decide), acT_ok (by omega) (by decide)]
          exact k0_rk_ok h hb
theorem q_rStrike4 : PureOk Tryz.prog 17 s_Strike4 := q_by X_rk_ok 8 (fun x => T_rk Y_rs x.1 x.2.1 x.2.2.1) (T_rk_eq Y_rs) fun _ hok _ => T_rk_ok (of_decide_eq_true hok)
end St
end V
end Go.Proofs.YtkiaifmbbnnliaaGreat
