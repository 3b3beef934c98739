import Derived.Test.YtkiaifmbbnnliaaGreatDt
namespace Go.Proofs.YtkiaifmbbnnliaaGreat
open Go.RowKit
namespace V
namespace St
noncomputable def X_Pl (Y : YP) : Ctx := ctxS Tryz.prog plTk fnRn [((177, 0), sm_pl Y)] []
theorem X_Pl_ok : CtxOk (X_Pl Y_pl) := ctxS_ok mixed puTk fnRn_ok (loops_cons (loops_none (by kernel_rfl)) (loops_cons (loops_none (by kernel_rfl)) (loops_cons (loops_none (by kernel_rfl)) (loops_cons (loops_of (ds := [lb_tt]) (by kernel_rfl) ⟨one_key (k := 0) (by kernel_rfl) rfl l_pl, trivial⟩) (loops_cons (loops_none (by kernel_rfl)) (loops_cons (loops_none (by kernel_rfl)) (loops_cons (loops_none (by kernel_rfl)) (loops_cons (loops_none (by kernel_rfl)) (loops_cons (loops_none (by kernel_rfl)) (loops_cons (loops_none (by kernel_rfl)) (loops_cons (loops_none (by kernel_rfl)) (loops_cons (loops_none (by kernel_rfl)) (loops_cons (loops_none (by kernel_rfl)) (loops_cons (loops_none (by kernel_rfl)) (loops_nil))))))))))))))) (fun p hp => nomatch hp)
def okPl (x : GB) : TkR := (stG x.1, gk x, 0, ())
def k_Pl (y : Option (GB ⊕ Int)) : TTR := thY y zGB (fun e => bif e != 0 then lfT2 (errT e) else .fail) fun x => lfT2 (okPl x)
where lfT2 (r : TkR) : TTR := .leaf r
noncomputable def T_Pl (Y : YP) (g : TCT cGr) (s : TCT cSt) (n : Int) : TTR := szT g.1 (bif staE g s != 0 then .leaf (errT (staE g s)) else bif decide (n < 0) then .leaf (errT 3) else bif decide (n > 4000) then .leaf (errT 3) else szT g.1 (neT (msT s) (acT (msT s) 48 (neT (osT s) (acT (osT s) 1 (.need (selfL [lkR 0]) (k_Pl (Y (gT g s) n))))))))
theorem T_Pl_eq (Y : YP) (x : TCTs [cGr, cSt, cI]) : evFn (X_Pl Y) 9 (.fn 37) (encAs [cGr, cSt, cI] x) noHeap 0 (outK Tryz.prog [cSt, .sl cKn, cI]) = T_Pl Y x.1 x.2.1 x.2.2.1 := by kernel_rfl
theorem okRn_gT {g : TCT cGr} {s : TCT cSt} {n : Int} (hs : (g.1.1.size : Int) ≤ maxK .i64) (h : StaOk g s) (hn : 0 ≤ n ∧ n ≤ 4000) : okRn (gT g s) n = true := by
  have a := okTk_gT hs h
  have b := okTk_iff a
  unfold okRn
  simp only [Bool.and_eq_true, decide_eq_true_eq]
  exact ⟨okGM_iff.2 b.1, b.2.2, hn⟩
def runR : GB ⊕ Int → TkR
  | .inl x => okPl x
  | .inr e => errT e
def PlayV (g : TCT cGr) (s : TCT cSt) (n : Int) : TkR := bif staE g s != 0 then errT (staE g s) else bif decide (n < 0) || decide (n > 4000) then errT 3 else runR (plRn (Int.toNat n) (gT g s))
theorem plRn_ne : ∀ (n : Nat) (x : GB) (e : Int), plRn n x = .inr e → e ≠ 0
  | 0, x, e, h => by
    unfold plRn at h
    cases hm : decide (((gk x).length : Int) > 4096) with
    | true => rw [hm] at h; cases h; decide
    | false => rw [hm] at h; cases h
  | n + 1, x, e, h => by
    unfold plRn at h
    cases hm : decide (((gk x).length : Int) > 4096) with
    | true => rw [hm] at h; cases h; decide
    | false =>
      rw [hm] at h
      cases hs : stillB (stG x.1) with
      | true => rw [hs] at h; cases h
      | false =>
        rw [hs] at h
        simp only [cond_false, Bool.not_false, cond_true] at h
        cases ht : tkF (ctG x.1) (gs x) with
        | inr e' => rw [ht] at h; cases h; exact tkF_ne ht
        | inl s => rw [ht] at h; exact plRn_ne n _ e h
abbrev s_Play4 : PureT := spec [cGr, cSt, cI] [cSt, .sl cKn, cI] (fun x => decide ((x.1.1.1.size : Int) ≤ maxK .i64)) (fun x => etaR (PlayV x.1 x.2.1 x.2.2.1))
theorem T_Pl_ok {g : TCT cGr} {s : TCT cSt} {n : Int} (hs : (g.1.1.size : Int) ≤ maxK .i64) : (T_Pl Y_pl g s n).sat (fun y => y = etaR (PlayV g s n)) := by
  unfold T_Pl PlayV
  rw [szT_ok hs, szT_ok hs]
  cases h1 : staE g s != 0 with
  | true => exact rfl
  | false =>
    have h := sta_ok (bne_eq_false_iff_eq.1 h1)
    have hn1 := h.n1
    have hn8 := h.n8
    have hm := h.m
    have ho := h.o
    simp only [cond_false]
    cases h2 : decide (n < 0) with
    | true => exact rfl
    | false =>
      cases h3 : decide (n > 4000) with
      | true => exact rfl
      | false =>
        have a2 := of_decide_eq_false h2
        have a3 := of_decide_eq_false h3
        simp only [cond_false, Bool.or_false]
        rw [neT_ok (by omega), acT_ok (by omega) (by decide), neT_ok (by omega), acT_ok (by omega) (by decide)]
        refine ⟨selfL_ok _, ?_⟩
        have hy : Y_pl (gT g s) n = some (plRn (Int.toNat n) (gT g s)) := by
          unfold Y_pl
          rw [okRn_gT hs h ⟨by omega, by omega⟩]; rfl
        unfold k_Pl
        cases hf : plRn (Int.toNat n) (gT g s) with
        | inl x => rw [hf] at hy; rw [thY_l hy]; exact rfl
        | inr e => rw [hf] at hy; rw [thY_r hy, show (e != 0) = true from bne_iff_ne.2 (plRn_ne _ _ _ hf)]; exact rfl
theorem q_Play4 : PureOk Tryz.prog 37 s_Play4 := q_by X_Pl_ok 9 (fun x => T_Pl Y_pl x.1 x.2.1 x.2.2.1) (T_Pl_eq Y_pl) fun _ hok _ => T_Pl_ok (of_decide_eq_true hok)
end St
end V
end Go.Proofs.YtkiaifmbbnnliaaGreat
