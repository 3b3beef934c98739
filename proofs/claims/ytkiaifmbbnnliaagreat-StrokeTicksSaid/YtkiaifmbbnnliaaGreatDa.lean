import Derived.Test.YtkiaifmbbnnliaaGreatCz
namespace Go.Proofs.YtkiaifmbbnnliaaGreat
open Go.RowKit
namespace V
namespace St
abbrev plRT : List (Nat × PureT) := (26, s_Sta) :: plR4
theorem puRT : PuOk Tryz.prog plRT := puOk_cons is_rState.plain q_rState puR4
noncomputable def X_rT (Y : TCT cGr → SKTs kSo → Option (S2 ⊕ Int)) : Ctx := ctxS Tryz.prog plRT [(22, Tryz.f22)] [] [(69, spRD Y)]
theorem X_rT_ok : CtxOk (X_rT Y_rt) := ctxS_ok mixed puRT (fns_cons is_rTick4 fns_nil) no_loops4 (fun p hp => by
  rw [List.mem_singleton] at hp; subst hp; exact ⟨is_rtick.plain, sp_rtD⟩)
def rtR (s : TCT cSt) (r : S2) : TkR := ((r.1, r.2.1, s.2.2.1, flR s.2.2.2.1, W64 (s.2.2.2.2.1 + 1), ()), r.2.2, 0, ())
def T_rT (Y : TCT cGr → SKTs kSo → Option (S2 ⊕ Int)) (g : TCT cGr) (s : TCT cSt) : TTR := szT g.1 (bif staE g s != 0 then szT g.1 (.leaf (errT (staE g s))) else thY (Y g s) z2 (fun e => .leaf (errT e)) fun r => .leaf (rtR s r))
theorem T_rT_eq (Y : TCT cGr → SKTs kSo → Option (S2 ⊕ Int)) (x : TCTs [cGr, cSt]) : evFn (X_rT Y) 8 (.fn 22) (encAs [cGr, cSt] x) noHeap 0 (outK Tryz.prog [cSt, .sl cKn, cI]) = T_rT Y x.1 x.2.1 := by kernel_rfl
theorem num_iff {n a b c : Int} (h : (decide (a < 0) || (decide (a ≥ n) || (decide (b < 0) || (decide (b > 8) || (decide (c < 0) || decide (c > 4000)))))) = false) : (0 ≤ a ∧ a < n) ∧ (0 ≤ b ∧ b ≤ 8) ∧ (0 ≤ c ∧ c ≤ 4000) := by
  simp only [Bool.or_eq_false_iff, decide_eq_false_iff_not] at h
  omega
theorem numS_iff {n : Int} {s : TCT cSt} (h : numS n s = false) : (0 ≤ s.2.2.1 ∧ s.2.2.1 < n) ∧ (0 ≤ s.2.2.2.1 ∧ s.2.2.2.1 ≤ 8) ∧ (0 ≤ s.2.2.2.2.1 ∧ s.2.2.2.2.1 ≤ 4000) := num_iff h
theorem T_rT_ok {g : TCT cGr} {s : TCT cSt} (hs : (g.1.1.size : Int) ≤ maxK .i64) : (T_rT Y_rt g s).sat (fun y => y = etaR (TickV g s)) := by
  unfold T_rT TickV
  rw [szT_ok hs]
  cases h1 : staE g s != 0 with
  | true => rw [cond_true, szT_ok hs]; exact rfl
  | false =>
    have h := sta_ok (bne_eq_false_iff_eq.1 h1)
    have hn8 := h.n8
    have hy : Y_rt g s = some (tkF (ctS g s) (msT s, osT s, [])) := by
      rw [← rt_tk h]
      unfold Y_rt
      rw [show okRw g s = true by
        unfold okRw
        simp only [Bool.and_eq_true, decide_eq_true_eq]
        exact ⟨hs, h.m, h.o, hn8⟩]
      rfl
    have hn := numS_iff h.num
    simp only [cond_false]
    unfold tkV
    cases hf : tkF (ctS g s) (msT s, osT s, []) with
    | inl r =>
      rw [hf] at hy
      rw [thY_l hy]
      unfold rtR
      rw [flR_eq hn.2.1.1 hn.2.1.2]
      exact rfl
    | inr e => rw [hf] at hy; rw [thY_r hy]; exact rfl
theorem q_rTick4 : PureOk Tryz.prog 22 s_Tick4 := q_by X_rT_ok 8 (fun x => T_rT Y_rt x.1 x.2.1) (T_rT_eq Y_rt) fun x hok _ => T_rT_ok (of_decide_eq_true hok)
abbrev s_Copy : PureT := spec [cSt] [cSt] (fun x => decide ((msT x.1).length ≤ 1000) && decide ((osT x.1).length ≤ 1000)) (fun x => (etaS x.1, ()))
theorem q_rCopy : PureOk Tryz.prog 20 s_Copy := q_by (ctx_ok mixed puR4 (fns_cons is_rCopy fns_nil)) 7 (fun x => acT (msT x.1) 48 (acT (osT x.1) 1 (.leaf (etaS x.1, ())))) (fun x => by kernel_rfl) fun x hok _ => by
  simp only [Bool.and_eq_true, decide_eq_true_eq] at hok
  rw [acT_ok hok.1 (by decide), acT_ok hok.2 (by decide)]
  exact rfl
end St
end V
end Go.Proofs.YtkiaifmbbnnliaaGreat
