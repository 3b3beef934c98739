import Derived.Test.YtkiaifmbbnnliaaGreatDv
namespace Go.Proofs.YtkiaifmbbnnliaaGreat
open Go.RowKit
namespace V
namespace St
noncomputable def X_Tr (Y : YT) : Ctx := ctxS Tryz.prog plTk fnRn [((177, 0), sm_tr Y)] []
theorem X_Tr_ok : CtxOk (X_Tr Y_tr) := ctxS_ok mixed puTk fnRn_ok (loops_cons (loops_none (by kernel_rfl)) (loops_cons (loops_none (by kernel_rfl)) (loops_cons (loops_none (by kernel_rfl)) (loops_cons (loops_of (ds := [lb_tt]) (by kernel_rfl) ⟨one_key (k := 0) (by kernel_rfl) rfl l_tr, trivial⟩) (loops_cons (loops_none (by kernel_rfl)) (loops_cons (loops_none (by kernel_rfl)) (loops_cons (loops_none (by kernel_rfl)) (loops_cons (loops_none (by kernel_rfl)) (loops_cons (loops_none (by kernel_rfl)) (loops_cons (loops_none (by kernel_rfl)) (loops_cons (loops_none (by kernel_rfl)) (loops_cons (loops_none (by kernel_rfl)) (loops_cons (loops_none (by kernel_rfl)) (loops_cons (loops_none (by kernel_rfl)) loops_nil)))))))))))))) (fun p hp => nomatch hp)
abbrev TrR : Type := TCTs [.sl cPt, cI]
abbrev TTrR := Tree TrR
def badTr (e : Int) : TTrR := .leaf ([], e, ())
def k_Tr (y : Option ((GB × TrkP) ⊕ Int)) : TTrR := thY y (zGB, []) (fun e => bif e != 0 then bif e != 0 then badTr e else .fail else .fail) fun r => .leaf (r.2, 0, ())
noncomputable def T_Tr (Y : YT) (g : TCT cGr) (s : TCT cSt) (b n : Int) : TTrR := szT g.1 (bif staE g s != 0 then badTr (staE g s) else bif decide (b < 0) then badTr 3 else bif decide (b ≥ ((ballsG g).length : Int)) then badTr 3 else bif decide (n < 0) then badTr 3 else bif decide (n > 4000) then badTr 3 else szT g.1 (neT (msT s) (acT (msT s) 48 (neT (osT s) (acT (osT s) 1 (.need (selfL [lkR 1]) (k_Tr (Y (gT g s) b n []))))))))
theorem T_Tr_eq (Y : YT) (x : TCTs [cGr, cSt, cI, cI]) : evFn (X_Tr Y) 9 (.fn 39) (encAs [cGr, cSt, cI, cI] x) noHeap 0 (outK Tryz.prog [.sl cPt, cI]) = T_Tr Y x.1 x.2.1 x.2.2.1 x.2.2.2.1 := by kernel_rfl
def runT : (GB × TrkP) ⊕ Int → TrR
  | .inl r => (r.2, 0, ())
  | .inr e => ([], e, ())
def TrackV (g : TCT cGr) (s : TCT cSt) (b n : Int) : TrR := bif staE g s != 0 then ([], staE g s, ()) else bif decide (b < 0) || (decide (b ≥ ((ballsG g).length : Int)) || (decide (n < 0) || decide (n > 4000))) then ([], 3, ()) else runT (plTr b (Int.toNat n) (gT g s) [])
theorem plTr_ne {b : Int} : ∀ (n : Nat) (x : GB) (t : TrkP) (e : Int), plTr b n x t = .inr e → e ≠ 0
  | 0, x, t, e, h => by
    unfold plTr at h
    cases hm : decide (((gk x).length : Int) > 4096) with
    | true => rw [hm] at h; cases h; decide
    | false => rw [hm] at h; cases h
  | n + 1, x, t, e, h => by
    unfold plTr at h
    cases hm : decide (((gk x).length : Int) > 4096) with
    | true => rw [hm] at h; cases h; decide
    | false =>
      rw [hm] at h
      cases hs : stillB (stG x.1) with
      | true => rw [hs] at h; cases h
      | false =>
        rw [hs] at h
        simp only [cond_false, Bool.not_false, cond_true] at h
        cases ht : tkF (ctG x.1) (gs x) with
        | inr e' => rw [ht] at h; cases h; exact tkF_ne ht
        | inl s => rw [ht] at h; exact plTr_ne n _ _ e h
abbrev etaTr (r : TrR) : TrR := (r.1, r.2.1, ())
abbrev s_Track4 : PureT := spec [cGr, cSt, cI, cI] [.sl cPt, cI] (fun x => decide ((x.1.1.1.size : Int) ≤ maxK .i64)) (fun x => etaTr (TrackV x.1 x.2.1 x.2.2.1 x.2.2.2.1))
theorem T_Tr_ok {g : TCT cGr} {s : TCT cSt} {b n : Int} (hs : (g.1.1.size : Int) ≤ maxK .i64) : (T_Tr Y_tr g s b n).sat (fun y => y = etaTr (TrackV g s b n)) := by
  unfold T_Tr TrackV
  rw [szT_ok hs, szT_ok hs]
  cases h1 : staE g s != 0 with
  | true => exact rfl
  | false =>
    have h := sta_ok (bne_eq_false_iff_eq.1 h1)
    have hn1 := h.n1
    have hn8 := h.n8
    have hm := h.m
    have ho := h.o
    simp only [cond_false]
    cases h4 : decide (b < 0) with
    | true => exact rfl
    | false =>
      cases h5 : decide (b ≥ ((ballsG g).length : Int)) with
      | true => exact rfl
      | false =>
        cases h2 : decide (n < 0) with
        | true => exact rfl
        | false =>
          cases h3 : decide (n > 4000) with
          | true => exact rfl
          | false =>
            have a2 := of_decide_eq_false h2
            have a3 := of_decide_eq_false h3
            have a4 := of_decide_eq_false h4
            have a5 := of_decide_eq_false h5
            simp only [cond_false, Bool.or_false]
            rw [neT_ok (by omega), acT_ok (by omega) (by decide), neT_ok (by omega), acT_ok (by omega) (by decide)]
            refine ⟨selfL_ok _, ?_⟩
            have hy : Y_tr (gT g s) b n [] = some (plTr b (Int.toNat n) (gT g s) []) := by
              unfold Y_tr
              rw [okRn_gT hs h ⟨by omega, by omega⟩, Bool.true_and, decide_eq_true (show 0 ≤ b ∧ b < (nBx (gT g s).1 : Int) from ⟨by omega, by show b < ((ballsG g).length : Int); omega⟩)]
              rfl
            unfold k_Tr
            cases hf : plTr b (Int.toNat n) (gT g s) [] with
            | inl x => rw [hf] at hy; rw [thY_l hy]; exact rfl
            | inr e => rw [hf] at hy; rw [thY_r hy, show (e != 0) = true from bne_iff_ne.2 (plTr_ne _ _ _ _ hf)]; exact rfl
theorem q_Track4 : PureOk Tryz.prog 39 s_Track4 := q_by X_Tr_ok 9 (fun x => T_Tr Y_tr x.1 x.2.1 x.2.2.1 x.2.2.2.1) (T_Tr_eq Y_tr) fun _ hok _ => T_Tr_ok (of_decide_eq_true hok)
end St
end V
end Go.Proofs.YtkiaifmbbnnliaaGreat
