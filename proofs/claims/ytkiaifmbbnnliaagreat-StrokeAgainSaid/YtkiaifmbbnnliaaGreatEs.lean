import Derived.Test.YtkiaifmbbnnliaaGreatEr
import Derived.Test.YtkiaifmbbnnliaaGreatDo
namespace Go.Proofs.YtkiaifmbbnnliaaGreat
open Go.RowKit
namespace V
namespace St
theorem is_StrokeAgain : FnIs Tryz.prog (10, Tryz.f10) := ⟨Tryz.func10, by kernel_rfl, by kernel_rfl⟩
abbrev FStr5 : Type := TCT cGr → TCT cSt → TCT cBw → TkR
abbrev FPly5 : Type := TCT cGr → TCT cSt → Int → TkR
abbrev FTrk5 : Type := TCT cGr → TCT cSt → Int → Int → TrR
abbrev s_StrF5 (F : FStr5) : PureT := spec [cGr, cSt, cBw] [cSt, .sl cKn, cI] (fun x => decide ((x.1.1.1.size : Int) ≤ maxK .i64)) (fun x => etaR (F x.1 x.2.1 x.2.2.1))
abbrev s_PlyF5 (P : FPly5) : PureT := spec [cGr, cSt, cI] [cSt, .sl cKn, cI] (fun x => decide ((x.1.1.1.size : Int) ≤ maxK .i64)) (fun x => etaR (P x.1 x.2.1 x.2.2.1))
abbrev s_TrkF5 (Q : FTrk5) : PureT := spec [cGr, cSt, cI, cI] [.sl cPt, cI] (fun x => decide ((x.1.1.1.size : Int) ≤ maxK .i64)) (fun x => etaTr (Q x.1 x.2.1 x.2.2.1 x.2.2.2.1))
noncomputable def plAg (F : FStr5) (P : FPly5) (Q : FTrk5) : List (Nat × PureT) := (15, s_Works) :: (18, s_Same) :: (19, s_smK) :: (16, s_StrF5 F) :: (37, s_PlyF5 P) :: (39, s_TrkF5 Q) :: []
theorem puAg : PuOk Tryz.prog (plAg skV PlayV TrackV) := puOk_cons is_Works4.plain q_Works4 (puOk_cons is_lSame.plain q_Same (puOk_cons is_smK.plain q_smK (puOk_cons is_sStrike.plain q_Strike4 (puOk_cons is_sPlay.plain q_Play4 (puOk_cons is_sTrack.plain q_Track4 puOk_nil)))))
def apK5 (a b : Kns) (k : Tree Unit) : Tree Unit := bif appOk a b 40 then k else .fail
noncomputable def kE_ag (A P R : TkR) : Tree Unit := bif eqC (α := TCT cSt) (etaS A.1) (etaS R.1) then apK5 [] P.2.1 (apK5 ([] ++ P.2.1) R.2.1 (bif eqC (α := Kns) A.2.1 (([] ++ P.2.1) ++ R.2.1) then lfU else .fail)) else .fail
def lastT (t : TrkP) : TCT cPt := getA t (Int.toNat (W64 ((t.length : Int) - 1))) (dflt cPt)
def sameP5 (a : TCT cPt) (m : TCT cMot) : Bool := a.1 == m.1.1 && (a.2.1 == m.1.2.1 && true)
noncomputable def kD_ag (A P R : TkR) (T : TrR) (ball : Int) : Tree Unit := bif T.2.1 == 0 then bif decide (ball < 0) then .fail else bif ((T.1 : TrkP).length : Int) == 0 then .fail else bif decide (((A.1.1 : Mots).length : Int) ≤ ball) then .fail else
  inN (T.1 : TrkP).length (W64 (((T.1 : TrkP).length : Int) - 1)) (inN (A.1.1 : Mots).length ball (bif !sameP5 (lastT T.1) (getM A.1.1 (Int.toNat ball)) then .fail else kE_ag A P R)) else kE_ag A P R
noncomputable def kC_ag (g : TCT cGr) (A P R : TkR) (T : TrR) (ball : Int) : Tree Unit := bif A.2.2.1 == 6 then bif A.2.2.1 == 6 then lfU else bif R.2.2.1 == 6 then lfU else .fail else bif R.2.2.1 != A.2.2.1 then bif A.2.2.1 == 6 then lfU else bif R.2.2.1 == 6 then lfU else .fail else bif A.2.2.1 != 0 then lfU else szT g.1 (kD_ag A P R T ball)
noncomputable def kB_ag (g : TCT cGr) (A P R : TkR) (T : TrR) (ball : Int) : Tree Unit := bif P.2.2.1 != 0 then bif A.2.2.1 == P.2.2.1 then bif ((P.2.1 : Kns).length : Int) == 0 then bif ((A.2.1 : Kns).length : Int) == 0 then lfU else .fail else .fail else .fail else szT g.1 (kC_ag g A P R T ball)
noncomputable def kA_ag (g : TCT cGr) (A P R : TkR) (T : TrR) (ball : Int) : Tree Unit := szT g.1 (szT g.1 (bif A.2.2.1 != A.2.2.1 then .fail else bif eqC (α := TCT cSt) (etaS A.1) (etaS A.1) then bif eqC (α := Kns) A.2.1 A.2.1 then szT g.1 (kB_ag g A P R T ball) else .fail else .fail))
noncomputable def k0_ag (P : FPly5) (Q : FTrk5) (g : TCT cGr) (s : TCT cSt) (ball n m : Int) : Tree Unit := kA_ag g (P g s (W64 (W64 n + W64 m))) (P g s (W64 n)) (P g (etaS (P g s (W64 n)).1) (W64 m)) (Q g s ball (W64 (W64 n + W64 m))) ball
noncomputable def T_ag (F : FStr5) (P : FPly5) (Q : FTrk5) (g : TCT cGr) (s : TCT cSt) (w : TCT cBw) (ball n m : Int) : Tree Unit := gr_T g s lfU (bif decide (n > 20) then lfU else bif decide (m > 20) then lfU else szT g.1 (bif (F g s w).2.2.1 == 0 then k0_ag P Q g (etaS (F g s w).1) ball n m else k0_ag P Q g s ball n m))
end St
open St
abbrev cs_strokeAgain : List TC := [cGr, cSt, cBw, cI, .i .u8, .i .u8]
noncomputable def X_strokeAgainF (F : FStr5) (P : FPly5) (Q : FTrk5) : Ctx := ctx Tryz.prog (plAg F P Q) [(10, Tryz.f10), (14, Tryz.f14)]
noncomputable def X_strokeAgain : Ctx := X_strokeAgainF skV PlayV TrackV
theorem X_strokeAgain_ok : CtxOk X_strokeAgain := ctx_ok mixed puAg (fns_cons is_StrokeAgain (fns_cons is_l4great fns_nil))
theorem T_ag_eq (F : FStr5) (P : FPly5) (Q : FTrk5) (y : TCTs cs_strokeAgain) : evFn (X_strokeAgainF F P Q) 8 (.fn 10) (encAs cs_strokeAgain y) noHeap 0 lawK = T_ag F P Q y.1 y.2.1 y.2.2.1 y.2.2.2.1 y.2.2.2.2.1 y.2.2.2.2.2.1 := by kernel_rfl
namespace St
theorem apK5_ok {a b : Kns} {k : Tree Unit} (h : a.length + b.length ≤ 1000000) : apK5 a b k = k := by
  unfold apK5
  rw [app_ok h (by decide)]; rfl
inductive AgOk (A P R : TkR) (T : TrR) (ball : Int) : Prop where
  | bad (h1 : P.2.2.1 ≠ 0) (h2 : A.2.2.1 = P.2.2.1) (h3 : P.2.1 = []) (h4 : A.2.1 = [])
  | many (h1 : P.2.2.1 = 0) (h2 : A.2.2.1 = 6)
  | err (h1 : P.2.2.1 = 0) (h2 : A.2.2.1 ≠ 6) (h3 : A.2.2.1 ≠ 0) (h4 : R.2.2.1 = A.2.2.1)
  | ok (h1 : P.2.2.1 = 0) (h2 : A.2.2.1 = 0) (h3 : R.2.2.1 = 0) (h4 : etaS A.1 = etaS R.1) (h5 : (A.2.1 : Kns) = P.2.1 ++ R.2.1) (h6 : (P.2.1 : Kns).length ≤ 4096) (h7 : (R.2.1 : Kns).length ≤ 4096)
    (h8 : T.2.1 = 0 → (0 ≤ ball ∧ ball < ((A.1.1 : Mots).length : Int)) ∧ (T.1 : TrkP).length ≤ 10000 ∧ ∃ t0 : TrkP, T.1 = t0 ++ [((getM A.1.1 (Int.toNat ball)).1.1, (getM A.1.1 (Int.toNat ball)).1.2.1, ())])
theorem kE_ok {A P R : TkR} (h4 : etaS A.1 = etaS R.1) (h5 : (A.2.1 : Kns) = P.2.1 ++ R.2.1) (h6 : (P.2.1 : Kns).length ≤ 4096) (h7 : (R.2.1 : Kns).length ≤ 4096) : (kE_ag A P R).sat (fun _ => True) := by
  unfold kE_ag
  rw [eqC_t h4, cond_true, apK5_ok (by simp; omega), apK5_ok (by simp; omega), List.nil_append, eqC_t h5]
  exact trivial
theorem last_app {t0 : TrkP} {p : TCT cPt} (h : (t0 ++ [p]).length ≤ 10000) : lastT (t0 ++ [p]) = p := by
  unfold lastT
  have e : (t0 ++ [p]).length = t0.length + 1 := by rw [List.length_append, List.length_singleton]
  rw [e, show ((t0.length + 1 : Nat) : Int) - 1 = (t0.length : Int) by omega, W64_id (n := (t0.length : Int)) (by omega) (by omega), show Int.toNat (t0.length : Int) = t0.length from rfl, getA_app (by omega), if_pos rfl]
theorem kA_ok {g : TCT cGr} {A P R : TkR} {T : TrR} {ball : Int} (hs : (g.1.1.size : Int) ≤ maxK .i64) (h : AgOk A P R T ball) : (kA_ag g A P R T ball).sat (fun _ => True) := by
  unfold kA_ag
  rw [szT_ok hs, szT_ok hs, bne_self_eq_false, cond_false, eqC_t rfl, cond_true, eqC_t rfl, cond_true, szT_ok hs]
  unfold kB_ag kC_ag
  cases h with
  | bad h1 h2 h3 h4 =>
    rw [show (P.2.2.1 != 0) = true from bne_iff_ne.2 h1, h2, beq_self_eq_true, h3, h4]
    exact trivial
  | many h1 h2 =>
    rw [h1, h2, szT_ok hs]
    exact trivial
  | err h1 h2 h3 h4 =>
    rw [h1, szT_ok hs, h4, show (A.2.2.1 == 6) = false from beq_eq_false_iff_ne.2 h2, show (A.2.2.1 != 0) = true from bne_iff_ne.2 h3]
    simp only [bne_self_eq_false, cond_false, cond_true]
    exact trivial
  | ok h1 h2 h3 h4 h5 h6 h7 h8 =>
    rw [h1, h2, h3, szT_ok hs, szT_ok hs]
    show (kD_ag A P R T ball).sat _
    have hE := kE_ok h4 h5 h6 h7
    unfold kD_ag
    cases hT : T.2.1 == 0 with
    | false => exact hE
    | true =>
      obtain ⟨k1, k2, t0, k3⟩ := h8 (beq_iff_eq.1 hT)
      have hl : (T.1 : TrkP).length = t0.length + 1 := by rw [k3, List.length_append, List.length_singleton]
      simp only [cond_true]
      rw [decide_eq_false (show ¬ ball < 0 by omega), show (((T.1 : TrkP).length : Int) == 0) = false from beq_eq_false_iff_ne.2 (by omega), decide_eq_false (show ¬ ((A.1.1 : Mots).length : Int) ≤ ball by omega)]
      simp only [cond_false]
      rw [inN_ok (by rw [W64_id (n := ((T.1 : TrkP).length : Int) - 1) (by omega) (by omega)]; omega), inN_ok k1]
      have e : lastT T.1 = ((getM A.1.1 (Int.toNat ball)).1.1, (getM A.1.1 (Int.toNat ball)).1.2.1, ()) := by
        rw [k3]; rw [k3] at k2; exact last_app k2
      have e2 : sameP5 (lastT T.1) (getM A.1.1 (Int.toNat ball)) = true := by
        rw [e]
        unfold sameP5
        rw [beq_self_eq_true, beq_self_eq_true]; rfl
      rw [e2]
      exact hE
theorem trS_len {g : TCT cGr} {b : Int} : ∀ (n : Nat) (s : TCT cSt) (ks : Kns) (t : TrkP) (r : TCT cSt × Kns × TrkP), trS g b n s ks t = .inl r → r.2.2.length ≤ t.length + n + 1
  | 0, s, ks, t, r, h => by
    rw [trS_zero] at h
    cases hm : decide ((ks.length : Int) > 4096) with
    | true => rw [hm] at h; cases h
    | false => rw [hm] at h; cases h; show (t ++ [_]).length ≤ _; rw [List.length_append, List.length_singleton]; omega
  | n + 1, s, ks, t, r, h => by
    rw [trS_succ] at h
    cases hm : decide ((ks.length : Int) > 4096) with
    | true => rw [hm] at h; cases h
    | false =>
      rw [hm] at h
      cases hs : stillB s with
      | true => rw [hs] at h; cases h; show (t ++ [_]).length ≤ _; rw [List.length_append, List.length_singleton]; omega
      | false =>
        rw [hs] at h
        simp only [Bool.not_false, cond_true, cond_false] at h
        cases ht : tkF (ctS g s) (msT s, osT s, ks) with
        | inr x => rw [ht] at h; cases h
        | inl x =>
          rw [ht] at h
          have := trS_len n (nxS s x) x.2.2 (t ++ [trS.atS s b]) r h
          rw [List.length_append, List.length_singleton] at this
          omega
theorem ag_ok {g : TCT cGr} {s : TCT cSt} {ball : Int} {n m : Nat} (hn : n ≤ 20) (hm : m ≤ 20) : AgOk (PlayV g s ((n + m : Nat) : Int)) (PlayV g s (n : Int)) (PlayV g (etaS (PlayV g s (n : Int)).1) (m : Int)) (TrackV g s ball ((n + m : Nat) : Int)) ball := by
  cases he : staE g s != 0 with
  | true =>
    rw [play_bad he, play_bad he]
    exact .bad (bne_iff_ne.1 he) rfl rfl rfl
  | false =>
    have h := sta_ok (bne_eq_false_iff_eq.1 he)
    rw [play_of h (by omega), play_of h (by omega), rnS_add]
    cases hP : rnS g n s [] with
    | inr e => exact .bad (rnS_ne _ _ _ _ hP) rfl rfl rfl
    | inl r =>
      obtain ⟨h1, hk1⟩ := rnS_sta n s [] r h hP
      have hR : PlayV g (etaS (runS (.inl r)).1) (m : Int) = runS (rnS g m r.1 []) := play_of (s := r.1) h1 (by omega)
      rw [hR]
      simp only
      have sh := rnS_shift (g := g) (k0 := r.2) m r.1 []
      rw [List.append_nil] at sh
      cases hA : rnS g m r.1 r.2 with
      | inr e =>
        rw [hA] at sh
        by_cases h6 : e = 6
        · exact .many rfl h6
        · rw [sh h6]
          exact .err rfl h6 (rnS_ne _ _ _ _ hA) rfl
      | inl r2 =>
        rw [hA] at sh
        obtain ⟨k2, e1, e2⟩ := sh
        rw [e1]
        have hk2 := (rnS_sta m r.1 [] (r2.1, k2) h1 e1).2
        have h2 := (rnS_sta m r.1 r.2 r2 h1 hA).1
        refine .ok rfl rfl rfl rfl e2 hk1 hk2 fun hT => ?_
        have hml : ((runS (.inl r2)).1.1 : Mots).length = (ballsG g).length := h2.m
        rw [TrackV_eq, he, cond_false, decide_eq_false (show ¬ ((n + m : Nat) : Int) < 0 by omega), decide_eq_false (show ¬ ((n + m : Nat) : Int) > 4000 by omega)] at hT ⊢
        cases hb : decide (ball < 0) || (decide (ball ≥ ((ballsG g).length : Int)) || (false || false)) with
        | true => rw [hb] at hT; cases hT
        | false =>
          rw [hb] at hT
          simp only [Bool.or_false, Bool.or_eq_false_iff, decide_eq_false_iff_not] at hb
          simp only [cond_false] at hT ⊢
          rw [show Int.toNat ((n + m : Nat) : Int) = n + m from rfl] at hT ⊢
          have tr := trS_rnS (g := g) (b := ball) (n + m) s [] []
          cases hr : trS g ball (n + m) s [] [] with
          | inr e =>
            rw [hr] at tr hT
            exact absurd hT (rnS_ne _ _ _ _ tr)
          | inl r3 =>
            rw [hr] at tr
            obtain ⟨t1, t0, t2⟩ := tr
            rw [rnS_add, hP] at t1
            simp only at t1
            rw [hA] at t1
            have e3 : r2 = (r3.1, r3.2.1) := Sum.inl.inj t1
            have hl := trS_len _ _ _ _ _ hr
            refine ⟨⟨by omega, by omega⟩, ?_, t0, ?_⟩
            · show r3.2.2.length ≤ 10000
              simp only [List.length_nil] at hl
              omega
            · rw [e3]; exact t2
theorem ag_all {g : TCT cGr} {s : TCT cSt} {w : TCT cBw} {ball n m : Int} (hs : (g.1.1.size : Int) ≤ maxK .i64) (h1 : 0 ≤ n ∧ n ≤ 255) (h2 : 0 ≤ m ∧ m ≤ 255) : (T_ag skV PlayV TrackV g s w ball n m).sat (fun _ => True) := by
  refine gr_T_ok hs trivial fun _ _ => ?_
  cases d1 : decide (n > 20) with
  | true => exact trivial
  | false =>
    cases d2 : decide (m > 20) with
    | true => exact trivial
    | false =>
      have a1 := of_decide_eq_false d1
      have a2 := of_decide_eq_false d2
      simp only [cond_false]
      rw [szT_ok hs]
      obtain ⟨n', rfl⟩ := Int.eq_ofNat_of_zero_le h1.1
      obtain ⟨m', rfl⟩ := Int.eq_ofNat_of_zero_le h2.1
      have key : ∀ x : TCT cSt, (k0_ag PlayV TrackV g x ball (n' : Int) (m' : Int)).sat (fun _ => True) := fun x => by
        unfold k0_ag
        rw [W64_id (n := (n' : Int)) (by omega) (by omega), W64_id (n := (m' : Int)) (by omega) (by omega), W64_id (n := (n' : Int) + (m' : Int)) (by omega) (by omega), show (n' : Int) + (m' : Int) = ((n' + m' : Nat) : Int) by omega]
        exact kA_ok hs (ag_ok (by omega) (by omega))
      cases (skV g s w).2.2.1 == 0 with
      | true => exact key _
      | false => exact key _
end St
theorem strokeAgain_sat : LawSat2 X_strokeAgain 10 cs_strokeAgain 8 := lawSat2 8 (fun y => T_ag skV PlayV TrackV y.1 y.2.1 y.2.2.1 y.2.2.2.1 y.2.2.2.2.1 y.2.2.2.2.2.1) (T_ag_eq skV PlayV TrackV) fun _ hw hs => ag_all hs.1.1.1 hw.2.2.2.2.1 hw.2.2.2.2.2.1
end V
end Go.Proofs.YtkiaifmbbnnliaaGreat
