/- Chapter 11: Champion, in the reference; pairs and numbers compared. -/
import Derived.Test.YtgchccljmjmibaaEl
namespace Go.Proofs.Ytgchccljmjmibaa
open Go.RowKit
namespace V
namespace Ev
/-- the last match: its sides, and who goes on -/
theorem siQ_last (m : cMp) : ∀ (d : Nat) (q : List Int) (out : List (TCT cPq)), q.length = d + 2 → getA (siQ m (d + 1) q out).1 0 0 = winV (m ((out.length + d : Nat) : Int)) (getA (siQ m (d + 1) q out).2 (out.length + d) (dflt cPq)).1 (getA (siQ m (d + 1) q out).2 (out.length + d) (dflt cPq)).2.1
  | 0, [a, b], out, _ => by
    show winV (m (out.length : Int)) a b = winV (m ((out.length + 0 : Nat) : Int)) (getA (out ++ [(a, b, ())]) (out.length + 0) (dflt cPq)).1 (getA (out ++ [(a, b, ())]) (out.length + 0) (dflt cPq)).2.1
    rw [getA_lt (by simp)]
    simp
  | d + 1, a :: b :: r, out, h => by
    have := siQ_last m d (r ++ [winV (m (out.length : Int)) a b]) (out ++ [(a, b, ())]) (by simp at h ⊢; omega)
    rw [show (out ++ [(a, b, ())]).length + d = out.length + (d + 1) by simp; omega] at this
    exact this
  | 0, [], _, h => by simp at h
  | 0, [_], _, h => by simp at h
  | 0, _ :: _ :: _ :: _, _, h => by simp at h
  | d + 1, [], _, h => by simp at h
  | d + 1, [_], _, h => by simp at h
theorem sdW_last {s : List Int} (l : List (TCT cSc)) (h : 2 ≤ s.length) : (sdO s l).length = s.length - 1 ∧ sdW s l = winV (cntM l ((s.length - 2 : Nat) : Int)) (getA (sdO s l) (s.length - 2) (dflt cPq)).1 (getA (sdO s l) (s.length - 2) (dflt cPq)).2.1 := by
  have e : s.length - 1 = (s.length - 2) + 1 := by omega
  have q := siQ_len (cntM l) (s.length - 1) s [] (by omega)
  refine ⟨by rw [show sdO s l = (siQ (cntM l) (s.length - 1) s []).2 from rfl, q.2]; simp, ?_⟩
  have := siQ_last (cntM l) (s.length - 2) s [] (by omega)
  rw [← e] at this
  simp only [List.length_nil, Nat.zero_add] at this
  exact this
def Q3_rCh (w : Int) : Tree (TCTs [cI, cI]) := bif w == -2 then .leaf (0, 5, ()) else .leaf (w, 0, ())
def Q2_rCh (l : List (TCT cSc)) (o : List (TCT cPq)) (k : Int) : Tree (TCTs [cI, cI]) := inN o.length k (bif chkV l == 0 then Q3_rCh (winV (cntM l k) (getA o (Int.toNat k) (dflt cPq)).1 (getA o (Int.toNat k) (dflt cPq)).2.1) else .fail)
def Q_rCh (s : List Int) (l : List (TCT cSc)) : Tree (TCTs [cI, cI]) := bif rsB s l then Q2_rCh l (sdO s l) (W64 (((sdO s l).length : Int) - 1)) else .fail
def T_rCh (s : List Int) (l : List (TCT cSc)) : Tree (TCTs [cI, cI]) := bif drV s != 0 then (bif drV s != 0 then .leaf (0, drV s, ()) else Q_rCh s l) else (bif chkV l != 0 then .leaf (0, chkV l, ()) else Q_rCh s l)
theorem T_rCh_ok (s : List Int) (l : List (TCT cSc)) : (T_rCh s l).sat (fun y => y = ((chaV s l).1, (chaV s l).2, ())) := by
  unfold T_rCh chaV alV
  cases h1 : (drV s != 0) with
  | true => simp only [cond_true]; rw [h1]; exact rfl
  | false =>
    simp only [cond_false]
    cases h2 : (chkV l != 0) with
    | true => exact rfl
    | false =>
      obtain ⟨h3, h4⟩ := al_rs h1 h2
      obtain ⟨h5, h6⟩ := sdW_last l h4
      have hl := dr_len h1
      unfold Q_rCh Q2_rCh
      rw [h3, h5, W64_id (n := (((s.length - 1 : Nat) : Int)) - 1) (by omega) (by omega), show (((s.length - 1 : Nat) : Int)) - 1 = ((s.length - 2 : Nat) : Int) by omega, inN_ok (by omega), show Int.toNat ((s.length - 2 : Nat) : Int) = s.length - 2 by omega, ← h6]
      have hc : (chkV l == 0) = true := by unfold bne at h2; simpa using h2
      rw [hc]
      unfold Q3_rCh
      simp only [cond_true, cond_false]
      cases sdW s l == -2 <;> exact rfl
theorem q_rChamp : PureOk Try.prog 36 s_Champ := q_by (ctx_ok mixed puRs (fns_cons is_rChamp (fns_cons is_rboth fns_nil))) 6 (fun x => T_rCh x.1 x.2.1) (fun x => by kernel_rfl) fun x _ _ => T_rCh_ok x.1 x.2.1
/-! lists are compared: pairs -/
theorem is_pairs : FnIs Try.prog (37, Try.f37) := ⟨Try.func37, by kernel_rfl, by kernel_rfl⟩
noncomputable def lb_pairs : Code := (loopsOf (bodyOf Try.f37)).getD 0 .skip
def L_pairs : Lay := { keys := [0, 1, 5], ks := [.d (.sl (cPq)), .d (.sl (cPq)), .d cI], bs := [], n := 26, nx := 1000, marks := [] }
def R_pairs : Lay := { keys := [], ks := [], bs := [], n := 26, nx := 1000, marks := [] }
def Rt_pairs : Lay := { keys := [4], ks := [.d .b], bs := [], n := 26, nx := 1000, marks := [] }
def E_pairs : XE → Lay := fun e => match e with | .ret => Rt_pairs | _ => R_pairs
abbrev c_pairs := L_pairs.T ⊕ Left' E_pairs
def hd_pairs (a b : List (TCT (cPq))) (i : Int) : L_pairs.T := ((a, b, i, ()), ())
def rt_pairs : Left' E_pairs := ⟨.ret, ((false, ()), ())⟩
def ex_pairs : Left' E_pairs := ⟨.exit 0, ((), ())⟩
def eq_pairs (x y : TCT (cPq)) : Bool := x.1 == y.1 && (x.2.1 == y.2.1 && true)
def sm_pairs (a b : List (TCT (cPq))) (i : Int) : Tree c_pairs := bif decide (i < (a.length : Int)) then inN a.length i (inN b.length i (bif !eq_pairs (getA a (Int.toNat i) (dflt (cPq))) (getA b (Int.toNat i) (dflt (cPq))) then .leaf (.inr rt_pairs) else .leaf (.inl (hd_pairs a b (W64 (i + 1)))))) else .leaf (.inr ex_pairs)
def st_pairs (g : L_pairs.T) : Tree c_pairs := sm_pairs g.1.1 g.1.2.1 g.1.2.2.1
def fu_pairs (g : L_pairs.T) : Nat := (g.1.1 : List (TCT (cPq))).length + 1
noncomputable def X_pairs0 : Ctx := ctx Try.prog [] []
theorem X_pairs0_ok : CtxOk X_pairs0 := ctx_ok mixed puOk_nil fns_nil
theorem e_pairs (g : L_pairs.T) : evC Try.prog (evFn X_pairs0 6) X_pairs0.pures 37 X_pairs0.u (fun _ => none) lb_pairs (L_pairs.of g) (stepOut L_pairs E_pairs) = st_pairs g := by kernel_rfl
theorem eq_pairs_iff (x y : TCT (cPq)) : eq_pairs x y = true ↔ x = y := by
  obtain ⟨a, b, ⟨⟩⟩ := x
  obtain ⟨c, d, ⟨⟩⟩ := y
  simp [eq_pairs]
theorem pairs_run (a b : List (TCT (cPq))) (hw : (a.length : Int) ≤ maxK .i64) (hl : a.length = b.length) : iter st_pairs (a.length + 1) (hd_pairs a b 0) = some (bif decide (a = b) then ex_pairs else rt_pairs) := by
  have hw' : (a.length : Int) ≤ 9223372036854775807 := hw
  have := iter_same (st := st_pairs) hl eq_pairs (fun i => hd_pairs a b i) rt_pairs ex_pairs (fun i hi hj => by
    show (sm_pairs a b i).run = _
    unfold sm_pairs
    rw [decide_eq_true (show (i : Int) < (a.length : Int) by omega), inN_ok (by omega), inN_ok (by omega), show Int.toNat (i : Int) = i by omega, getA_lt hi, getA_lt hj, W64_id (n := (i : Int) + 1) (by omega) (by omega)]
    cases eq_pairs a[i] b[i] <;> rfl) (by
    show (sm_pairs a b a.length).run = _
    unfold sm_pairs
    rw [decide_eq_false (show ¬ (a.length : Int) < (a.length : Int) by omega)]
    rfl) a.length 0 (a.length + 1) (by omega) (by omega)
  rw [List.drop_zero, List.drop_zero] at this
  rw [show hd_pairs a b 0 = hd_pairs a b ((0 : Nat) : Int) from rfl, this]
  congr 1
  have h2 := eqL_iff eq_pairs_iff hl
  cases h : eqL eq_pairs a b with
  | true => rw [decide_eq_true (h2.1 h)]
  | false => rw [decide_eq_false (fun h3 => by rw [h2.2 h3] at h; cases h)]
abbrev s_pairs : PureT := spec [.sl (cPq), .sl (cPq)] [.b] (fun _ => true) (fun x => (decide (x.1 = x.2.1), ()))
noncomputable def X_pairs : Ctx := ctxL Try.prog [] [(37, Try.f37)] [((37, 4), loopSum L_pairs E_pairs (finX [.ret, .exit 0] st_pairs fu_pairs))]
theorem X_pairs_ok : CtxOk X_pairs := ctxL_ok mixed puOk_nil (fns_cons is_pairs fns_nil) (loops_one (lb := lb_pairs) (k := 4) (by kernel_rfl) (by kernel_rfl) (loopOk_x0 X_pairs0_ok 6 _ L_pairs E_pairs (fun e => by cases e <;> exact Nat.le_refl _) [.ret, .exit 0] _ fu_pairs e_pairs))
def U_pairs (y : Option (Left' E_pairs)) : Tree (TCTs [.b]) := bif isE .ret y then .leaf ((valE .ret y).1.1, ()) else bif isE (.exit 0) y then .leaf (true, ()) else .fail
def T_pairs (a b : List (TCT (cPq))) : Tree (TCTs [.b]) := bif (a.length : Int) != (b.length : Int) then .leaf (false, ()) else U_pairs (iter st_pairs (a.length + 1) (hd_pairs a b 0))
theorem T_pairs_ok (a b : List (TCT (cPq))) (hw : (a.length : Int) ≤ maxK .i64) : (T_pairs a b).sat (fun y => y = (decide (a = b), ())) := by
  unfold T_pairs
  refine sat_cond (fun h => ?_) (fun h => ?_)
  · have h1 : (a.length : Int) ≠ (b.length : Int) := by simpa using h
    rw [decide_eq_false (fun e : a = b => h1 (by rw [e]))]
    exact rfl
  · have h1 : a.length = b.length := by
      have : (a.length : Int) = (b.length : Int) := by simpa using h
      omega
    rw [pairs_run a b hw h1]
    by_cases hab : a = b
    · rw [decide_eq_true hab]; exact rfl
    · rw [decide_eq_false hab]; exact rfl
theorem q_pairs : PureOk Try.prog 37 s_pairs := q_by X_pairs_ok 6 (fun x => T_pairs x.1 x.2.1) (fun x => by kernel_rfl) fun x _ hw => T_pairs_ok x.1 x.2.1 hw.1.1
/-! lists are compared: ints -/
theorem is_ints : FnIs Try.prog (25, Try.f25) := ⟨Try.func25, by kernel_rfl, by kernel_rfl⟩
noncomputable def lb_ints : Code := (loopsOf (bodyOf Try.f25)).getD 0 .skip
def L_ints : Lay := { keys := [0, 1, 5], ks := [.d (.sl (cI)), .d (.sl (cI)), .d cI], bs := [], n := 26, nx := 1000, marks := [] }
def R_ints : Lay := { keys := [], ks := [], bs := [], n := 26, nx := 1000, marks := [] }
def Rt_ints : Lay := { keys := [4], ks := [.d .b], bs := [], n := 26, nx := 1000, marks := [] }
def E_ints : XE → Lay := fun e => match e with | .ret => Rt_ints | _ => R_ints
abbrev c_ints := L_ints.T ⊕ Left' E_ints
def hd_ints (a b : List (TCT (cI))) (i : Int) : L_ints.T := ((a, b, i, ()), ())
def rt_ints : Left' E_ints := ⟨.ret, ((false, ()), ())⟩
def ex_ints : Left' E_ints := ⟨.exit 0, ((), ())⟩
def eq_ints (x y : TCT (cI)) : Bool := x == y
def sm_ints (a b : List (TCT (cI))) (i : Int) : Tree c_ints := bif decide (i < (a.length : Int)) then inN a.length i (inN b.length i (bif !eq_ints (getA a (Int.toNat i) (dflt (cI))) (getA b (Int.toNat i) (dflt (cI))) then .leaf (.inr rt_ints) else .leaf (.inl (hd_ints a b (W64 (i + 1)))))) else .leaf (.inr ex_ints)
def st_ints (g : L_ints.T) : Tree c_ints := sm_ints g.1.1 g.1.2.1 g.1.2.2.1
def fu_ints (g : L_ints.T) : Nat := (g.1.1 : List (TCT (cI))).length + 1
noncomputable def X_ints0 : Ctx := ctx Try.prog [] []
theorem X_ints0_ok : CtxOk X_ints0 := ctx_ok mixed puOk_nil fns_nil
theorem e_ints (g : L_ints.T) : evC Try.prog (evFn X_ints0 6) X_ints0.pures 25 X_ints0.u (fun _ => none) lb_ints (L_ints.of g) (stepOut L_ints E_ints) = st_ints g := by kernel_rfl
theorem eq_ints_iff (x y : TCT (cI)) : eq_ints x y = true ↔ x = y := by
  simp [eq_ints]
theorem ints_run (a b : List (TCT (cI))) (hw : (a.length : Int) ≤ maxK .i64) (hl : a.length = b.length) : iter st_ints (a.length + 1) (hd_ints a b 0) = some (bif decide (a = b) then ex_ints else rt_ints) := by
  have hw' : (a.length : Int) ≤ 9223372036854775807 := hw
  have := iter_same (st := st_ints) hl eq_ints (fun i => hd_ints a b i) rt_ints ex_ints (fun i hi hj => by
    show (sm_ints a b i).run = _
    unfold sm_ints
    rw [decide_eq_true (show (i : Int) < (a.length : Int) by omega), inN_ok (by omega), inN_ok (by omega), show Int.toNat (i : Int) = i by omega, getA_lt hi, getA_lt hj, W64_id (n := (i : Int) + 1) (by omega) (by omega)]
    cases eq_ints a[i] b[i] <;> rfl) (by
    show (sm_ints a b a.length).run = _
    unfold sm_ints
    rw [decide_eq_false (show ¬ (a.length : Int) < (a.length : Int) by omega)]
    rfl) a.length 0 (a.length + 1) (by omega) (by omega)
  rw [List.drop_zero, List.drop_zero] at this
  rw [show hd_ints a b 0 = hd_ints a b ((0 : Nat) : Int) from rfl, this]
  congr 1
  have h2 := eqL_iff eq_ints_iff hl
  cases h : eqL eq_ints a b with
  | true => rw [decide_eq_true (h2.1 h)]
  | false => rw [decide_eq_false (fun h3 => by rw [h2.2 h3] at h; cases h)]
abbrev s_ints : PureT := spec [.sl (cI), .sl (cI)] [.b] (fun _ => true) (fun x => (decide (x.1 = x.2.1), ()))
noncomputable def X_ints : Ctx := ctxL Try.prog [] [(25, Try.f25)] [((25, 4), loopSum L_ints E_ints (finX [.ret, .exit 0] st_ints fu_ints))]
theorem X_ints_ok : CtxOk X_ints := ctxL_ok mixed puOk_nil (fns_cons is_ints fns_nil) (loops_one (lb := lb_ints) (k := 4) (by kernel_rfl) (by kernel_rfl) (loopOk_x0 X_ints0_ok 6 _ L_ints E_ints (fun e => by cases e <;> exact Nat.le_refl _) [.ret, .exit 0] _ fu_ints e_ints))
def U_ints (y : Option (Left' E_ints)) : Tree (TCTs [.b]) := bif isE .ret y then .leaf ((valE .ret y).1.1, ()) else bif isE (.exit 0) y then .leaf (true, ()) else .fail
def T_ints (a b : List (TCT (cI))) : Tree (TCTs [.b]) := bif (a.length : Int) != (b.length : Int) then .leaf (false, ()) else U_ints (iter st_ints (a.length + 1) (hd_ints a b 0))
theorem T_ints_ok (a b : List (TCT (cI))) (hw : (a.length : Int) ≤ maxK .i64) : (T_ints a b).sat (fun y => y = (decide (a = b), ())) := by
  unfold T_ints
  refine sat_cond (fun h => ?_) (fun h => ?_)
  · have h1 : (a.length : Int) ≠ (b.length : Int) := by simpa using h
    rw [decide_eq_false (fun e : a = b => h1 (by rw [e]))]
    exact rfl
  · have h1 : a.length = b.length := by
      have : (a.length : Int) = (b.length : Int) := by simpa using h
      omega
    rw [ints_run a b hw h1]
    by_cases hab : a = b
    · rw [decide_eq_true hab]; exact rfl
    · rw [decide_eq_false hab]; exact rfl
theorem q_ints : PureOk Try.prog 25 s_ints := q_by X_ints_ok 6 (fun x => T_ints x.1 x.2.1) (fun x => by kernel_rfl) fun x _ hw => T_ints_ok x.1 x.2.1 hw.1.1
end Ev
end V
end Go.Proofs.Ytgchccljmjmibaa
