/- Chapter 11: the sheets that count, in the reference. -/
import Derived.Test.YtgchccljmjmibaaEdg
namespace Go.Proofs.Ytgchccljmjmibaa
open Go.RowKit
namespace V
namespace Ev
def hd_rk (l : List (TCT cSc)) (n : Int) (z b : SKTs kSc) (f : Bool) (i : Int) : L_rk.T := ((l, n, (), (), f, i, ()), (z, b, ()))
def ex_rk (z b : SKTs kSc) (f : Bool) : Left' E_rk := ⟨.exit 0, (((), (), f, ()), (z, b, ()))⟩
def ke_rk (l : List (TCT cSc)) (n : Int) (z b : SKTs kSc) (f : Bool) (i : Int) : Tree cRk := .leaf (.inl (hd_rk l n z b f (W64 (i + 1))))
def bd_rk (l : List (TCT cSc)) (n : Int) (z b : SKTs kSc) (f : Bool) (i : Int) (s : TCT cSc) : Tree cRk :=
  bif s.1 == n then (bif !f then inN l.length i (ke_rk l n z (eS s) true i) else inN l.length i (bif laB (eS s) b then inN l.length i (ke_rk l n z (eS s) true i) else ke_rk l n z b f i)) else ke_rk l n z b f i
def sm_rk (l : List (TCT cSc)) (n : Int) (z b : SKTs kSc) (f : Bool) (i : Int) : Tree cRk := bif decide (i < (l.length : Int)) then inN l.length i (bd_rk l n z b f i (getA l (Int.toNat i) (dflt cSc))) else .leaf (.inr (ex_rk z b f))
def st_rk (g : L_rk.T) : Tree cRk := sm_rk g.1.1 g.1.2.1 g.2.1 g.2.2.1 g.1.2.2.2.2.1 g.1.2.2.2.2.2.1
def fu_rk (g : L_rk.T) : Nat := (g.1.1 : List (TCT cSc)).length + 1
theorem e_rk (g : L_rk.T) : evC Try.prog (evFn XLa 6) XLa.pures 67 XLa.u (fun _ => none) lb_rk (L_rk.of g) (stepOut L_rk E_rk) = st_rk g := by kernel_rfl
def rkS (n : Int) (p : TCT cSc × Bool) (s : TCT cSc) : TCT cSc × Bool := bif s.1 == n && (!p.2 || laB s p.1) then (s, true) else p
theorem rk_run (l : List (TCT cSc)) (n : Int) (z b : SKTs kSc) (hl : (l.length : Int) ≤ maxK .i64) : iter st_rk (l.length + 1) (hd_rk l n z b false 0) = some (ex_rk z (l.foldl (rkS n) (b, false)).1 (l.foldl (rkS n) (b, false)).2) := by
  have hl' : (l.length : Int) ≤ 9223372036854775807 := hl
  refine iter_foldl (st := st_rk) l (fun i p => hd_rk l n z p.1 p.2 i) (rkS n) (fun p => ex_rk z p.1 p.2) (fun _ _ => True) (fun i p hi _ => ⟨?_, trivial⟩) (fun p _ => ?_) (b, false) trivial
  · obtain ⟨b, f⟩ := p
    show (sm_rk l n z b f i).run = _
    unfold sm_rk inN
    rw [decide_eq_true (show (i : Int) < (l.length : Int) by omega), decide_eq_true (show 0 ≤ (i : Int) ∧ (i : Int) < (l.length : Int) by omega), show Int.toNat (i : Int) = i by omega, getA_lt hi]
    simp only [cond_true]
    unfold bd_rk inN rkS ke_rk
    rw [decide_eq_true (show 0 ≤ (i : Int) ∧ (i : Int) < (l.length : Int) by omega), W64_id (n := (i : Int) + 1) (by omega) (by omega), show eS l[i] = l[i] from rfl]
    cases l[i].1 == n with
    | false => rfl
    | true =>
      simp only [cond_true, Bool.true_and]
      cases f with
      | false => rfl
      | true =>
        simp only [Bool.not_true, cond_false, Bool.false_or]
        cases laB l[i] b <;> rfl
  · show (sm_rk l n z p.1 p.2 l.length).run = _
    unfold sm_rk
    rw [decide_eq_false (show ¬ (l.length : Int) < (l.length : Int) by omega)]
    rfl
theorem cnt_rk (n : Int) : ∀ (l : List (TCT cSc)) (m : cMp) (b : TCT cSc) (f : Bool), m n = (bif f then some b else none) → (f = false → b = (0, 0, 0, 0, ())) →
    (l.foldl cntS m) n = (bif (l.foldl (rkS n) (b, f)).2 then some (l.foldl (rkS n) (b, f)).1 else none) ∧ ((l.foldl (rkS n) (b, f)).2 = false → (l.foldl (rkS n) (b, f)).1 = (0, 0, 0, 0, ()))
  | [], m, b, f, h, h2 => ⟨h, h2⟩
  | s :: l, m, b, f, h, h2 => by
    simp only [List.foldl_cons]
    have key : ∀ m' b' f', cntS m s = m' → rkS n (b, f) s = (b', f') → m' n = (bif f' then some b' else none) → (f' = false → b' = (0, 0, 0, 0, ())) → _ := fun m' b' f' _ _ h3 h4 => cnt_rk n l m' b' f' h3 h4
    by_cases hs : s.1 = n
    · have e1 : rkS n (b, f) s = (bif !f || laB s b then (s, true) else (b, f)) := by unfold rkS; rw [hs]; simp
      have e2 : cntS m s = (bif !f || laB s b then upd m s.1 s else m) := by
        unfold cntS
        rw [hs, h]
        cases f <;> rfl
      cases hc : (!f || laB s b) with
      | true =>
        rw [hc] at e1 e2
        rw [e1, e2]
        exact cnt_rk n l _ s true (by simp only [cond_true]; rw [hs]; exact upd_same _ _ _) (fun h => nomatch h)
      | false =>
        rw [hc] at e1 e2
        rw [e1, e2]
        exact cnt_rk n l m b f h h2
    · have e1 : rkS n (b, f) s = (b, f) := by unfold rkS; rw [show (s.1 == n) = false by simpa using hs]; rfl
      have e2 : cntS m s n = m n := by
        unfold cntS
        cases (!(m s.1).isSome || laB s (or0 (m s.1))) with
        | true => exact upd_other _ _ (fun h => hs h.symm)
        | false => rfl
      rw [e1]
      exact cnt_rk n l _ b f (by rw [e2, h]) h2
abbrev s_rk : PureT := spec [.sl cSc, cI] [cSc, .b] (fun _ => true) (fun x => (eS (or0 (cntM x.1 x.2.1)), (cntM x.1 x.2.1).isSome, ()))
noncomputable def X_rk : Ctx := ctxL Try.prog plLa [(67, Try.f67)] [((67, 4), loopSum L_rk E_rk (finX [.exit 0] st_rk fu_rk))]
theorem X_rk_ok : CtxOk X_rk := ctxL_ok mixed puLa (fns_cons is_rcounts fns_nil) (loops_one (lb := lb_rk) (k := 4) (by kernel_rfl) (by kernel_rfl) (loopOk_x0 XLa_ok 6 _ L_rk E_rk (fun _ => Nat.le_refl _) [.exit 0] _ fu_rk e_rk))
def U_rk (y : Option (Left' E_rk)) : Tree (TCTs [cSc, .b]) := bif isE (.exit 0) y then .leaf (eS (valE (.exit 0) y).2.2.1, (valE (.exit 0) y).1.2.2.1, ()) else .fail
theorem U_rk_ok (l : List (TCT cSc)) (n : Int) (hl : (l.length : Int) ≤ maxK .i64) : (U_rk (iter st_rk (l.length + 1) (hd_rk l n (0, 0, 0, 0, ()) (0, 0, 0, 0, ()) false 0))).sat (fun y => y = (eS (or0 (cntM l n)), (cntM l n).isSome, ())) := by
  rw [rk_run l n _ _ hl]
  obtain ⟨h1, h2⟩ := cnt_rk n l (fun _ => none) (0, 0, 0, 0, ()) false rfl (fun _ => rfl)
  show (eS (l.foldl (rkS n) ((0, 0, 0, 0, ()), false)).1, (l.foldl (rkS n) ((0, 0, 0, 0, ()), false)).2, ()) = _
  rw [show cntM l n = l.foldl cntS (fun _ => none) n from rfl, h1]
  revert h2
  generalize l.foldl (rkS n) ((0, 0, 0, 0, ()), false) = p
  obtain ⟨b, f⟩ := p
  intro h2
  cases f with
  | true => rfl
  | false => rw [h2 rfl]; rfl
theorem q_rcounts : PureOk Try.prog 67 s_rk := q_by X_rk_ok 6 (fun x => U_rk (iter st_rk (x.1.length + 1) (hd_rk x.1 x.2.1 (0, 0, 0, 0, ()) (0, 0, 0, 0, ()) false 0))) (fun x => by kernel_rfl) fun x _ hw => U_rk_ok x.1 x.2.1 hw.1.1
noncomputable def plRk : List (Nat × PureT) := (67, s_rk) :: (66, s_chk) :: (26, s_draw) :: plLa
theorem puRk : PuOk Try.prog plRk := puOk_cons is_rcounts.plain q_rcounts (puOk_cons is_rsh.plain q_rsheets (puOk_cons is_rCD.plain q_rdraw puLa))
def T_rCo (l : List (TCT cSc)) (n : Int) : Tree (TCTs [cSc, cI]) := bif chkV l != 0 then .leaf ((0, 0, 0, 0, ()), chkV l, ()) else bif !(cntM l n).isSome then .leaf ((0, 0, 0, 0, ()), 5, ()) else .leaf (eS (or0 (cntM l n)), 0, ())
theorem q_rCounts : PureOk Try.prog 32 s_Counts := q_by (ctx_ok mixed puRk (fns_cons is_rCounts fns_nil)) 6 (fun x => T_rCo x.1 x.2.1) (fun x => by kernel_rfl) fun x _ _ => by
  show (T_rCo x.1 x.2.1).sat _
  unfold T_rCo coV
  refine sat_cond (fun h => ?_) (fun h => ?_)
  · rw [h]; exact rfl
  rw [h]
  cases (cntM x.1 x.2.1).isSome <;> exact rfl
end Ev
end V
end Go.Proofs.Ytgchccljmjmibaa
