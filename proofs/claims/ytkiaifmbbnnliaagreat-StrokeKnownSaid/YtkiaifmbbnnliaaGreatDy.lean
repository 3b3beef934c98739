import Derived.Test.YtkiaifmbbnnliaaGreatDx
import Derived.Test.YtkiaifmbbnnliaaGreatDo
import Derived.Test.YtkiaifmbbnnliaaGreatDg
namespace Go.Proofs.YtkiaifmbbnnliaaGreat
open Go.RowKit
namespace V
namespace St
theorem is_StrokeKnown : FnIs Tryz.prog (12, Tryz.f12) := ⟨Tryz.func12, by kernel_rfl, by kernel_rfl⟩
def exB (x y : Int) : TCT cSt := ([((50000, 60000, ()), (0, 0, ()), (0, 0, ()), ()), ((x, y, ()), (0, 0, ()), (0, 0, ()), ())], [false, false], 0, 0, 0, ())
def exW : TCT cBw := (0, (0, 1, ()), 200000, 1, ())
def exR2 : TkR := (([((50000, 60000, ()), (0, 50012, ()), (0, 0, ()), ()), ((50000, 65892, ()), (0, 179988, ()), (0, 0, ()), ())], [false, false], 0, 0, 0, ()), [(0, 0, 0, 0, 1, ())], 0, ())
def exP : TkR := ((kMA 20, [false, false], 0, 0, 20, ()), [], 0, ())
theorem tw_ex : TwR 0 1 0 0 200000 = ((0, 200000), 0) := by
  have hd : dTo 0 1 0 0 = 64 := rt_unique _ _ (by decide) (by decide) (by decide)
  unfold TwR
  rw [hd]
  rfl
theorem twP_ex : twP exW = (0, 200000, ()) := by
  unfold twP
  rw [show exW.2.1.1 = 0 from rfl, show exW.2.1.2.1 = 1 from rfl, show exW.2.2.1 = 200000 from rfl, tw_ex]
set_option maxRecDepth 100000 in
theorem sk_ex1 : skV exG (exB 80000 60000) exW = (exS, [], 0, ()) := by
  unfold skV skG skF skM
  rw [twP_ex]
  kernel_rfl
set_option maxRecDepth 100000 in
theorem sk_ex2 : skV exG (exB 50000 65892) exW = exR2 := by
  unfold skV skG skF skM
  rw [twP_ex]
  kernel_rfl
theorem play_ex : PlayV exG exS 100 = exP := by
  unfold PlayV
  rw [sta_ex, show Int.toNat 100 = 80 + 20 from rfl, show gT exG exS = xK 0 by kernel_rfl, kp_0 80]
  rfl
def isE3 (g : TCT cGr) (s : TCT cSt) (w : TCT cBw) (s0 : TCT cSt) : Bool := match dec4 cGr g exG, dec4 cSt s s0, dec4 cBw w exW with
  | isTrue _, isTrue _, isTrue _ => true
  | _, _, _ => false
theorem isE3_eq {g : TCT cGr} {s s0 : TCT cSt} {w : TCT cBw} (h : isE3 g s w s0 = true) : g = exG ∧ s = s0 ∧ w = exW := by
  unfold isE3 at h
  split at h
  · rename_i h1 h2 h3 _ _ _
    exact ⟨h1, h2, h3⟩
  · cases h
abbrev s_StrX : PureT := spec [cGr, cSt, cBw] [cSt, .sl cKn, cI] (fun x => isE3 x.1 x.2.1 x.2.2.1 (exB 80000 60000) || isE3 x.1 x.2.1 x.2.2.1 (exB 50000 65892)) (fun x => bif isE3 x.1 x.2.1 x.2.2.1 (exB 80000 60000) then (exS, [], 0, ()) else exR2)
theorem ex_size : (exG.1.1.size : Int) ≤ maxK .i64 := by show (5 : Int) ≤ 9223372036854775807; omega
theorem q_StrX : PureOk Tryz.prog 16 s_StrX := q_weak q_Strike4 fun x _ h => by
  obtain ⟨g, s, w, ⟨⟩⟩ := x
  simp only at h
  cases h1 : isE3 g s w (exB 80000 60000) with
  | true =>
    obtain ⟨rfl, rfl, rfl⟩ := isE3_eq h1
    exact ⟨decide_eq_true ex_size, by
      show (bif isE3 exG (exB 80000 60000) exW (exB 80000 60000) then ((exS, [], 0, ()) : TkR) else exR2) = etaR (skV exG (exB 80000 60000) exW)
      rw [h1, sk_ex1]; rfl⟩
  | false =>
    rw [h1, Bool.false_or] at h
    obtain ⟨rfl, rfl, rfl⟩ := isE3_eq h
    exact ⟨decide_eq_true ex_size, by
      show (bif isE3 exG (exB 50000 65892) exW (exB 80000 60000) then ((exS, [], 0, ()) : TkR) else exR2) = etaR (skV exG (exB 50000 65892) exW)
      rw [h1, sk_ex2]; rfl⟩
abbrev s_PlayX : PureT := spec [cGr, cSt, cI] [cSt, .sl cKn, cI] (fun x => isEx x.1 x.2.1 && x.2.2.1 == 100) (fun _ => exP)
theorem q_PlayX : PureOk Tryz.prog 37 s_PlayX := q_weak q_Play4 fun x _ h => by
  obtain ⟨g, s, n, ⟨⟩⟩ := x
  rw [Bool.and_eq_true] at h
  obtain ⟨rfl, rfl⟩ := isEx_eq h.1
  have hn : n = 100 := beq_iff_eq.1 h.2
  subst hn
  exact ⟨decide_eq_true ex_size, by
    show exP = etaR (PlayV exG exS 100)
    rw [play_ex]; rfl⟩
noncomputable def plKo : List (Nat × PureT) := (15, s_Works) :: (16, s_StrX) :: (21, s_TickX) :: (37, s_PlayX) :: (43, s_Runs) :: (44, autoF X_w0 40 44 [] [cGr]) :: (45, autoF X_w0 40 45 [cI, cI] [cSt]) :: (46, autoF X_w0 40 46 [] [cBl]) :: []
theorem puKo : PuOk Tryz.prog plKo := puOk_cons is_Works4.plain q_Works4 (puOk_cons is_sStrike.plain q_StrX (puOk_cons is_sTick.plain q_TickX (puOk_cons is_sPlay.plain q_PlayX (puOk_cons is_sRuns.plain q_Runs (puOk_cons is_Example4.plain (autoF_ok X_w0_ok _ _ _ _) (puOk_cons is_begin4.plain (autoF_ok X_w0_ok _ _ _ _) (puOk_cons is_blow4.plain (autoF_ok X_w0_ok _ _ _ _) puOk_nil (panOk_none rfl)) (panOk_none rfl)) (panOk_none rfl))))))
end St
open St
abbrev cs_strokeKnown : List TC := []
noncomputable def X_strokeKnown : Ctx := ctxU 20 Tryz.prog plKo [(12, Tryz.f12)]
theorem X_strokeKnown_ok : CtxOk X_strokeKnown := ctxU_ok mixed puKo (fns_cons is_StrokeKnown fns_nil)
set_option maxRecDepth 100000 in
theorem T_kn_eq (y : TCTs cs_strokeKnown) : evFn X_strokeKnown 8 (.fn 12) (encAs cs_strokeKnown y) noHeap 0 lawK = .leaf () := by kernel_rfl
theorem strokeKnown_sat : LawSat2 X_strokeKnown 12 cs_strokeKnown 8 := lawSat2 8 (fun _ => .leaf ()) T_kn_eq fun _ _ _ => trivial
end V
end Go.Proofs.YtkiaifmbbnnliaaGreat
