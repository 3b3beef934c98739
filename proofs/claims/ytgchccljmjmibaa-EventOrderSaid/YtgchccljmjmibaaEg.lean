/- Chapter 11: the sheets that count. -/
import Derived.Test.YtgchccljmjmibaaEf
namespace Go.Proofs.Ytgchccljmjmibaa
open Go.RowKit
namespace V
namespace Ev
theorem is_eCounts : FnIs Try.prog (31, Try.f31) := ⟨Try.func31, by kernel_rfl, by kernel_rfl⟩
theorem is_rCounts : FnIs Try.prog (32, Try.f32) := ⟨Try.func32, by kernel_rfl, by kernel_rfl⟩
/-- a sheet counts instead of another one -/
def laB (a b : TCT cSc) : Bool := bif a.2.1 != b.2.1 then decide (a.2.1 > b.2.1) else bif a.2.2.1 != b.2.2.1 then decide (a.2.2.1 > b.2.2.1) else decide (a.2.2.2.1 > b.2.2.2.1)
/-- a sheet is put with those that count -/
def cntS (m : cMp) (s : TCT cSc) : cMp := bif !(m s.1).isSome || laB s (or0 (m s.1)) then upd m s.1 s else m
def cntM (l : List (TCT cSc)) : cMp := l.foldl cntS (fun _ => none)
theorem bd_co_run {G E : Type} (hd : Int → cMp → G) (i : Int) (m : cMp) (s : TCT cSc) : (bd_co (E := E) hd i m s).run = some (.inl (hd (W64 (i + 1)) (cntS m s))) := by
  unfold bd_co cntS
  cases (m s.1).isSome with
  | false => rfl
  | true =>
    simp only [Bool.not_true, cond_false, Bool.false_or]
    unfold b2_co laB pu_co ke_co
    cases h1 : (s.2.1 != (or0 (m s.1)).2.1) with
    | true => simp only [cond_true]; cases decide (s.2.1 > (or0 (m s.1)).2.1) <;> rfl
    | false =>
      simp only [cond_false]
      cases h2 : (s.2.2.1 != (or0 (m s.1)).2.2.1) with
      | true => simp only [cond_true]; cases decide (s.2.2.1 > (or0 (m s.1)).2.2.1) <;> rfl
      | false =>
        simp only [cond_false]
        cases h3 : (s.2.2.2.1 != (or0 (m s.1)).2.2.2.1) with
        | true => simp only [cond_true]; cases decide (s.2.2.2.1 > (or0 (m s.1)).2.2.2.1) <;> rfl
        | false =>
          have e3 : s.2.2.2.1 = (or0 (m s.1)).2.2.2.1 := by simpa [bne] using h3
          rw [decide_eq_false (show ¬ (s.2.2.2.1 > (or0 (m s.1)).2.2.2.1) from fun h => by rw [e3] at h; exact Int.lt_irrefl _ h)]
          rfl
theorem co_run {G E : Type} {st : G → Tree (G ⊕ E)} (hd : Int → cMp → G) (ex : cMp → E) (l : List (TCT cSc)) (hl : (l.length : Int) ≤ maxK .i64) (h : ∀ i m, st (hd i m) = sm_co hd ex l l.length i m) :
    iter st (l.length + 1) (hd 0 (fun _ => none)) = some (ex (cntM l)) := by
  have hl' : (l.length : Int) ≤ 9223372036854775807 := hl
  refine iter_foldl (st := st) l hd cntS ex (fun _ _ => True) (fun i m hi _ => ⟨?_, trivial⟩) (fun m _ => ?_) _ trivial
  · rw [h]
    unfold sm_co inN
    rw [decide_eq_true (show (i : Int) < (l.length : Int) by omega), decide_eq_true (show 0 ≤ (i : Int) ∧ (i : Int) < (l.length : Int) by omega), show Int.toNat (i : Int) = i by omega, getA_lt hi]
    simp only [cond_true]
    rw [bd_co_run, W64_id (n := (i : Int) + 1) (by omega) (by omega)]
    rfl
  · rw [h]
    unfold sm_co
    rw [decide_eq_false (show ¬ (l.length : Int) < (l.length : Int) by omega)]
    rfl
/-- the loop of counting in a caller -/
theorem l_co0 : LoopOk Try.prog 65 lb_co (loopSum (L_co 0) (E_co 0) (finX [.exit 0] st_co0 fu_co0)) := loopOk_x0 XCo_ok 6 _ (L_co 0) (E_co 0) (fun _ => Nat.le_refl _) [.exit 0] _ fu_co0 e_co0
theorem l_c1 : LoopOk Try.prog 65 lb_co (loopSum L_c1 E_c1 (finX [.exit 0] st_c1 fu_c1)) := loopOk_x0 XCo_ok 6 _ L_c1 E_c1 (fun _ => Nat.le_refl _) [.exit 0] _ fu_c1 e_c1
noncomputable def plCc : List (Nat × PureT) := (64, s_chk) :: plCo
theorem puCc : PuOk Try.prog plCc := puOk_cons is_chk.plain q_chk puCo
noncomputable def X_Co : Ctx := ctxL Try.prog plCc [(31, Try.f31), (65, Try.f65)] [((65, 4), loopSum L_c1 E_c1 (finX [.exit 0] st_c1 fu_c1))]
theorem X_Co_ok : CtxOk X_Co := ctxL_ok mixed puCc (fns_cons is_eCounts (fns_cons is_cnt fns_nil)) (loops_cons (loops_none (by kernel_rfl)) (loops_cons (loops_of (ds := [lb_co]) (by kernel_rfl) ⟨one_key (k := 4) (by kernel_rfl) rfl l_c1, trivial⟩) loops_nil))
/-- the sheet that counts for a match, and the error -/
def coV (l : List (TCT cSc)) (n : Int) : TCT cSc × Int := bif chkV l != 0 then ((0, 0, 0, 0, ()), chkV l) else bif !(cntM l n).isSome then ((0, 0, 0, 0, ()), 5) else (or0 (cntM l n), 0)
abbrev s_Counts : PureT := spec [.sl cSc, cI] [cSc, cI] (fun _ => true) (fun x => (eS (coV x.1 x.2.1).1, (coV x.1 x.2.1).2, ()))
def U_Co (n : Int) (m : cMp) : Tree (TCTs [cSc, cI]) := bif !(m n).isSome then .leaf ((0, 0, 0, 0, ()), 5, ()) else .leaf (eS (or0 (m n)), 0, ())
def V_Co (n : Int) (y : Option (Left' E_c1)) : Tree (TCTs [cSc, cI]) := bif isE (.exit 0) y then U_Co n (valE (.exit 0) y).2.2.1.1 else .fail
def T_Co (l : List (TCT cSc)) (n : Int) : Tree (TCTs [cSc, cI]) := bif chkV l != 0 then .leaf ((0, 0, 0, 0, ()), chkV l, ()) else V_Co n (iter st_c1 (l.length + 1) (hd_c1 (0, 0, 0, 0, ()) l l.length 0 (fun _ => none)))
theorem T_Co_ok (l : List (TCT cSc)) (n : Int) (hl : (l.length : Int) ≤ maxK .i64) : (T_Co l n).sat (fun y => y = (eS (coV l n).1, (coV l n).2, ())) := by
  unfold T_Co coV
  refine sat_cond (fun h => ?_) (fun h => ?_)
  · rw [h]; exact rfl
  rw [h, co_run (st := st_c1) (hd_c1 (0, 0, 0, 0, ()) l l.length) (ex_c1 (0, 0, 0, 0, ())) l hl (fun _ _ => rfl)]
  show (U_Co n (cntM l)).sat _
  unfold U_Co
  cases (cntM l n).isSome <;> exact rfl
theorem q_Counts : PureOk Try.prog 31 s_Counts := q_by X_Co_ok 6 (fun x => T_Co x.1 x.2.1) (fun x => by kernel_rfl) fun x _ hw => T_Co_ok x.1 x.2.1 hw.1.1
abbrev s_later : PureT := spec [cSc, cSc] [.b] (fun _ => true) (fun x => (laB x.1 x.2.1, ()))
def T_later (a b : TCT cSc) : TBo := bif a.2.1 != b.2.1 then .leaf (decide (a.2.1 > b.2.1), ()) else bif a.2.2.1 != b.2.2.1 then .leaf (decide (a.2.2.1 > b.2.2.1), ()) else .leaf (decide (a.2.2.2.1 > b.2.2.2.1), ())
theorem q_later : PureOk Try.prog 103 s_later := q_by (ctx_ok mixed puOk_nil (fns_cons is_rlater fns_nil)) 6 (fun x => T_later x.1 x.2.1) (fun x => by kernel_rfl) fun x _ _ => by
  show (T_later x.1 x.2.1).sat _
  unfold T_later laB
  refine sat_cond (fun h => ?_) (fun h => ?_)
  · rw [h]; exact rfl
  rw [h]
  refine sat_cond (fun h => ?_) (fun h => ?_)
  · rw [h]; exact rfl
  rw [h]
  exact rfl
noncomputable def plLa : List (Nat × PureT) := (103, s_later) :: plDq
theorem puLa : PuOk Try.prog plLa := puOk_cons is_rlater.plain q_later puDq
noncomputable def XLa : Ctx := ctx Try.prog plLa []
theorem XLa_ok : CtxOk XLa := ctx_ok mixed puLa fns_nil
noncomputable def lb_rk : Code := (loopsOf (bodyOf Try.f67)).getD 0 .skip
def L_rk : Lay := { keys := [0, 1, 4, 6, 7, 8], ks := [.d (.sl cSc), .d cI, .p 0 0 0 0, .p 1 0 0 0, .d .b, .d cI], bs := [(0, 62, kSc), (1, 62, kSc)], n := 41, nx := 1000, marks := [] }
def R_rk : Lay := { keys := [4, 6, 7], ks := [.p 0 0 0 0, .p 1 0 0 0, .d .b], bs := [(0, 62, kSc), (1, 62, kSc)], n := 41, nx := 1000, marks := [] }
def E_rk : XE → Lay := fun _ => R_rk
abbrev cRk := L_rk.T ⊕ Left' E_rk
end Ev
end V
end Go.Proofs.Ytgchccljmjmibaa
