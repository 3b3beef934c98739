import Derived.Test.YtkiaifmbbnnliaaGreatDe
import Derived.Test.YtkiaifmbbnnliaaGreatDg
namespace Go.Proofs.YtkiaifmbbnnliaaGreat
open Go.RowKit
namespace V
namespace St
theorem is_StrokeMet : FnIs Tryz.prog (13, Tryz.f13) := ⟨Tryz.func13, by kernel_rfl, by kernel_rfl⟩
abbrev FMet : Type := TCT cGr → Kns → Int → MeR
abbrev FRun : Type := TCT cLawn → Int → Bool → Int → Trk → RuR
abbrev s_MetF (F : FMet) : PureT := spec [cGr, .sl cKn, cI] [.sl cI, cI] (fun x => decide ((x.1.1.1.size : Int) ≤ maxK .i64)) (fun x => etaMe (F x.1 x.2.1 x.2.2.1))
abbrev s_RunF (F : FRun) : PureT := spec [cLawn, cI, .b, cI, .sl cPt] [.b, cI] (fun x => decide ((x.1.1.size : Int) ≤ maxK .i64)) (fun x => etaRu (F x.1 x.2.1 x.2.2.1 x.2.2.2.1 x.2.2.2.2.1))
noncomputable def plMt (F : FMet) (G : FRun) : List (Nat × PureT) := (15, s_Works) :: (47, s_MetF F) :: (48, s_MetF F) :: (43, s_RunF G) :: (49, s_RunF G) :: []
theorem puMt : PuOk Tryz.prog (plMt metV runV) := puOk_cons is_Works4.plain q_Works4 (puOk_cons is_sMet.plain q_Met (puOk_cons is_rMet.plain q_rMet (puOk_cons is_sRuns.plain q_Runs (puOk_cons is_rRuns.plain q_rRuns puOk_nil))))
noncomputable def lb_sm : Code := (loopsOf (bodyOf Tryz.f13)).getD 0 .skip
def L_sm : Lay := { keys := [3, 4, 5, 6, 7, 15, 17, 19], ks := [.d cI, .d .b, .d cI, .d (.sl cPt), .p 0 0 0 0, .d (.sl cI), .d (.sl cI), .d cI], bs := [(0, 34, kGr)], n := 126, nx := 1000, marks := [] }
def R_sm : Lay := { keys := [3, 4, 5, 6, 7], ks := [.d cI, .d .b, .d cI, .d (.sl cPt), .p 0 0 0 0], bs := [(0, 34, kGr)], n := 126, nx := 1000, marks := [] }
def Rf_sm : Lay := { keys := [14], ks := [.d .b], bs := [], n := 126, nx := 1000, marks := [] }
def E_sm : XE → Lay := fun e => match e with | .ret => Rf_sm | _ => R_sm
abbrev TSm := Tree (L_sm.T ⊕ Left' E_sm)
abbrev QSm : Type := Int × Bool × Int × Trk × SKTs kGr
def hd_sm (q : QSm) (a b : List Int) (i : Int) : L_sm.T := ((q.1, q.2.1, q.2.2.1, q.2.2.2.1, (), a, b, i, ()), (q.2.2.2.2, ()))
def rt_sm : Left' E_sm := ⟨.ret, ((false, ()), ())⟩
def ex_sm (q : QSm) : Left' E_sm := ⟨.exit 0, ((q.1, q.2.1, q.2.2.1, q.2.2.2.1, (), ()), (q.2.2.2.2, ()))⟩
def st_sm' (q : QSm) (a b : List Int) (i : Int) : TSm := bif decide (i < (a.length : Int)) then inN a.length i (inN b.length i (bif !(getA a (Int.toNat i) (dflt cI) == getA b (Int.toNat i) (dflt cI)) then .leaf (.inr rt_sm) else .leaf (.inl (hd_sm q a b (W64 (i + 1)))))) else .leaf (.inr (ex_sm q))
def st_sm (g : L_sm.T) : TSm := st_sm' (g.1.1, g.1.2.1, g.1.2.2.1, g.1.2.2.2.1, g.2.1) g.1.2.2.2.2.2.1 g.1.2.2.2.2.2.2.1 g.1.2.2.2.2.2.2.2.1
def fu_sm (g : L_sm.T) : Nat := (g.1.2.2.2.2.2.1 : List Int).length + 1
theorem l_sm : LoopOk Tryz.prog 13 lb_sm (loopSum L_sm E_sm (finX [.ret, .exit 0] st_sm fu_sm)) := loopOk_x0 X_n_ok 7 _ L_sm E_sm (fun e => by cases e <;> exact Nat.le_refl _) [.ret, .exit 0] st_sm fu_sm (fun g => by kernel_rfl)
theorem it_sm {q : QSm} {l : List Int} (hl : (l.length : Int) ≤ maxK .i64) : iter st_sm (l.length + 1) (hd_sm q l l 0) = some (ex_sm q) :=
  it_eq l (dflt cI) (fun i => hd_sm q l l i) (fun a b => a == b) (fun x => beq_self_eq_true x) rt_sm (ex_sm q) hl (fun _ => rfl)
end St
open St
abbrev cs_strokeMet : List TC := [cGr, .sl cKn, cI, cI, .b, cI, .sl cPt]
noncomputable def X_strokeMetF (F : FMet) (G : FRun) : Ctx := ctxL Tryz.prog (plMt F G) [(13, Tryz.f13), (14, Tryz.f14)] [((13, 8), loopSum L_sm E_sm (finX [.ret, .exit 0] st_sm fu_sm))]
noncomputable def X_strokeMet : Ctx := X_strokeMetF metV runV
theorem X_strokeMet_ok : CtxOk X_strokeMet := ctxL_ok mixed puMt (fns_cons is_StrokeMet (fns_cons is_l4great fns_nil)) (loops_cons (loops_of (ds := [lb_sm]) (by kernel_rfl) ⟨one_key (k := 8) (by kernel_rfl) rfl l_sm, trivial⟩) (loops_cons (loops_none (by kernel_rfl)) loops_nil))
namespace St
def gr5_T (t : Trk) (yes k : Tree Unit) : Tree Unit := bif decide ((t.length : Int) > 4100) then yes else k
def gr4_T (t : Trk) (yes k : Tree Unit) : Tree Unit := bif decide ((t.length : Int) > 100) then bif decide ((t.length : Int) ≤ 4001) then yes else gr5_T t yes k else gr5_T t yes k
def gr6_T (l : Kns) (t : Trk) (yes k : Tree Unit) : Tree Unit := bif decide ((l.length : Int) > 4100) then yes else gr4_T t yes k
def gr3_T (l : Kns) (t : Trk) (yes k : Tree Unit) : Tree Unit := bif decide ((l.length : Int) > 100) then bif decide ((l.length : Int) ≤ 4096) then yes else gr6_T l t yes k else gr6_T l t yes k
def gr2_T (g : TCT cGr) (l : Kns) (t : Trk) (yes k : Tree Unit) : Tree Unit :=
  bif inKB .i64 (g.1.1.size : Int) then bif decide ((g.1.1.size : Int) > 100) then yes else bif decide (((hoopsL g.1).length : Int) > 20) then yes else bif decide (((cellsL g.1).length : Int) > 300) then yes else
  bif decide (((ballsG g).length : Int) > 5) then bif decide (((ballsG g).length : Int) ≤ 8) then yes else bif decide (((ballsG g).length : Int) > 12) then yes else gr3_T l t yes k
  else bif decide (((ballsG g).length : Int) > 12) then yes else gr3_T l t yes k else .fail
theorem bif_sat {b : Bool} {t u : Tree Unit} {R : Unit → Prop} (h1 : t.sat R) (h2 : u.sat R) : (bif b then t else u : Tree Unit).sat R := by cases b; exact h2; exact h1
theorem gr3_ok {l : Kns} {t : Trk} {yes k : Tree Unit} {R : Unit → Prop} (hy : yes.sat R) (hk : k.sat R) : (gr3_T l t yes k).sat R := by
  have h5 : (gr5_T t yes k).sat R := bif_sat hy hk
  have h4 : (gr4_T t yes k).sat R := bif_sat (bif_sat hy h5) h5
  have h6 : (gr6_T l t yes k).sat R := bif_sat hy h4
  exact bif_sat (bif_sat hy h6) h6
theorem gr2_T_ok {g : TCT cGr} {l : Kns} {t : Trk} {yes k : Tree Unit} {R : Unit → Prop} (hs : (g.1.1.size : Int) ≤ maxK .i64) (hy : yes.sat R) (hk : k.sat R) : (gr2_T g l t yes k).sat R := by
  have h3 : (gr3_T l t yes k).sat R := gr3_ok hy hk
  unfold gr2_T
  have h0 : inKB .i64 (g.1.1.size : Int) = true := by
    unfold inKB
    have : (g.1.1.size : Int) ≤ 9223372036854775807 := hs
    simp only [Bool.and_eq_true, decide_eq_true_eq]
    exact ⟨by show (-9223372036854775808 : Int) ≤ _; omega, hs⟩
  rw [h0, cond_true]
  exact bif_sat hy (bif_sat hy (bif_sat hy (bif_sat (bif_sat hy (bif_sat hy h3)) (bif_sat hy h3))))
def k4_sm (r : RuR) : Tree Unit := bif r.1 == r.1 then bif r.2.1 == r.2.1 then lfU else .fail else .fail
def k3_sm (G : FRun) (v : R_sm.T) : Tree Unit := szT (lwG v.2.1) (szT (lwG v.2.1) (k4_sm (G (lwG v.2.1) v.1.1 v.1.2.1 v.1.2.2.1 v.1.2.2.2.1)))
def k2_sm (G : FRun) (y : Option (Left' E_sm)) : Tree Unit := bif isE .ret y then bif (valE .ret y).1.1 then lfU else .fail else bif isE (.exit 0) y then k3_sm G (valE (.exit 0) y) else .fail
def k1_sm (G : FRun) (q : QSm) (r : MeR) : Tree Unit := bif r.2.1 != r.2.1 then .fail else bif ((r.1 : List Int).length : Int) != ((r.1 : List Int).length : Int) then .fail else k2_sm G (iter st_sm ((r.1 : List Int).length + 1) (hd_sm q r.1 r.1 0))
def T_sm (F : FMet) (G : FRun) (g : TCT cGr) (l : Kns) (ball n : Int) (f : Bool) (r : Int) (t : Trk) : Tree Unit := gr2_T g l t lfU (szT g.1 (szT g.1 (k1_sm G (n, f, r, t, grTo g) (F g l ball))))
theorem T_sm_eq (F : FMet) (G : FRun) (y : TCTs cs_strokeMet) : evFn (X_strokeMetF F G) 8 (.fn 13) (encAs cs_strokeMet y) noHeap 0 lawK = T_sm F G y.1 y.2.1 y.2.2.1 y.2.2.2.1 y.2.2.2.2.1 y.2.2.2.2.2.1 y.2.2.2.2.2.2.1 := by kernel_rfl
theorem unE_len {α : Type} {f : Nat → List α → List α ⊕ Int} (h : ∀ i s s', f i s = .inl s' → s'.length ≤ s.length + 1) : ∀ (k i : Nat) (s s' : List α), foldN f i k s = .inl s' → s'.length ≤ s.length + k
  | 0, _, s, s', e => by
    have : s = s' := Sum.inl.inj e
    rw [this]; exact Nat.le_refl _
  | k + 1, i, s, s', e => by
    unfold foldN at e
    cases hf : f i s with
    | inl s1 =>
      rw [hf] at e
      have a := h i s s1 hf
      have b := unE_len h k (i + 1) s1 s' e
      omega
    | inr b => rw [hf] at e; cases e
theorem met_len {g : TCT cGr} {l : Kns} {ball : Int} : ((metV g l ball).1 : List Int).length ≤ 4096 := by
  unfold metV
  cases groE g != 0 with
  | true => exact Nat.zero_le _
  | false =>
    cases h1 : decide ((l.length : Int) > 4096) with
    | true => exact Nat.zero_le _
    | false =>
      have hl := of_decide_eq_false h1
      cases decide (ball ≥ 0) && decide (ball < ((ballsG g).length : Int)) with
      | false => exact Nat.zero_le _
      | true =>
        simp only [cond_false, cond_true]
        cases hf : foldN (meE (ballsG g).length ball l) 0 l.length [] with
        | inr e => exact Nat.zero_le _
        | inl out =>
          have := unE_len (f := meE (ballsG g).length ball l) (fun i s s' h => by
            unfold meE at h
            cases hb : ballI l i && badI (ballsG g).length l i with
            | true => rw [hb] at h; cases h
            | false => rw [hb] at h; cases h; exact adK_len) l.length 0 [] out hf
          show out.length ≤ 4096
          simp only [List.length_nil] at this
          omega
theorem sm_all {g : TCT cGr} {l : Kns} {ball n : Int} {f : Bool} {r : Int} {t : Trk} (hs : (g.1.1.size : Int) ≤ maxK .i64) : (T_sm metV runV g l ball n f r t).sat (fun _ => True) := by
  refine gr2_T_ok hs trivial ?_
  rw [szT_ok hs, szT_ok hs]
  have hl := met_len (g := g) (l := l) (ball := ball)
  unfold k1_sm
  rw [bne_self_eq_false, bne_self_eq_false, cond_false, cond_false, it_sm (by show ((metV g l ball).1.length : Int) ≤ 9223372036854775807; omega)]
  show Tree.sat _ (szT g.1 (szT g.1 (k4_sm (runV g.1 n f r t))))
  rw [szT_ok hs, szT_ok hs]
  unfold k4_sm
  rw [beq_self_eq_true, beq_self_eq_true]
  exact trivial
end St
theorem strokeMet_sat : LawSat2 X_strokeMet 13 cs_strokeMet 8 := lawSat2 8 (fun y => T_sm metV runV y.1 y.2.1 y.2.2.1 y.2.2.2.1 y.2.2.2.2.1 y.2.2.2.2.2.1 y.2.2.2.2.2.2.1) (T_sm_eq metV runV) fun _ _ hs => sm_all hs.1.1.1
end V
end Go.Proofs.YtkiaifmbbnnliaaGreat
