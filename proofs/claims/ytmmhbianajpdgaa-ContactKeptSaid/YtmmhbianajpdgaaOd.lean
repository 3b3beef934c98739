/- The law ContactKept: for all arguments it returns true. -/
import Derived.Test.YtmmhbianajpdgaaNc
import Derived.Test.YtmmhbianajpdgaaOb
namespace Go.Proofs.Ytmmhbianajpdgaa
open Go.RowKit
namespace V
theorem is_ContactKept : FnIs Try.prog (7, Try.f7) := ⟨Try.func7, by kernel_rfl, by kernel_rfl⟩
noncomputable def X_contactKept : Ctx := ctx Try.prog plO [(7, Try.f7)]
theorem X_contactKept_ok : CtxOk X_contactKept := ctx_ok mixed puO (fns_cons is_ContactKept fns_nil)
def T_kept (a b : Bm) (k : RKick) (u : RBnc) : Tree Unit :=
  bif u.2.2.1 != 0 then
    bif u.2.2.1 == k.2.1 then bif eqM u.1 noMot then bif eqM u.2.1 noMot then .leaf () else .fail else .fail else
    bif u.2.2.1 == 4 then bif k.2.1 == 0 then bif eqM u.1 noMot then bif eqM u.2.1 noMot then .leaf () else .fail else .fail else .fail else .fail
  else bif k.2.1 != 0 then .fail else bif W64 (u.1.2.1.1 + u.2.1.2.1.1) != W64 (a.mx + b.mx) then .fail else bif W64 (u.1.2.1.2.1 + u.2.1.2.1.2.1) != W64 (a.my + b.my) then .fail else
  bif W64 (a.mx - u.1.2.1.1) != k.1.1 then .fail else bif W64 (a.my - u.1.2.1.2.1) != k.1.2.1 then .fail else
  bif !(u.1.1.1 == a.px && (u.1.1.2.1 == a.py && true)) then .fail else bif !(u.2.1.1.1 == b.px && (u.2.1.1.2.1 == b.py && true)) then .fail else
  bif !(u.1.2.2.1.1 == a.rx && (u.1.2.2.1.2.1 == a.ry && true)) then .fail else bif !(u.2.1.2.2.1.1 == b.rx && (u.2.1.2.2.1.2.1 == b.ry && true)) then .fail else
  bif (WorkR a b).2.1 == 0 then bif (WorkR (bm (a.m, a.r, ()) u.1) (bm (b.m, b.r, ()) u.2.1)).2.1 == 0 then
  bif decide ((WorkR (bm (a.m, a.r, ()) u.1) (bm (b.m, b.r, ()) u.2.1)).1 ≤ (WorkR a b).1) then bif decide ((WorkR (bm (a.m, a.r, ()) u.1) (bm (b.m, b.r, ()) u.2.1)).1 ≥ 0) then .leaf () else .fail else .fail else .fail else .fail
theorem workR_fit {a b : Bm} (ha : a.Fit) (hb : b.Fit) : WorkR a b = (workN a b, 0, ()) := by
  unfold WorkR; rw [fit_ok ha, fit_ok hb]; rfl
theorem T_kept_ok (a b : Bm) (re dr : Int) : (T_kept a b (KickR a b re dr) (BounceR a b re dr)).sat (fun _ => True) := by
  refine bnc_cases (P := fun k u => (T_kept a b k u).sat (fun _ => True)) (fun _ => trivial) (fun _ _ _ _ => trivial) (fun _ _ _ _ _ => trivial) (fun _ _ _ _ => trivial) fun x y K fa fb => ?_
  have x1 := K.ke.x1; have x2 := K.ke.x2; have y1 := K.ke.y1; have y2 := K.ke.y2
  have a1 := K.fa.mx1; have a2 := K.fa.mx2; have a3 := K.fa.my1; have a4 := K.fa.my2
  have b1 := K.fb.mx1; have b2 := K.fb.mx2; have b3 := K.fb.my1; have b4 := K.fb.my2
  have w1 : (WorkR (bm (a.m, a.r, ()) (a.moved (a.mx - x) (a.my - y))) (bm (b.m, b.r, ()) (b.moved (b.mx + x) (b.my + y)))) = (workN (a.mv (a.mx - x) (a.my - y)) (b.mv (b.mx + x) (b.my + y)), 0, ()) := workR_fit fa fb
  unfold T_kept
  simp only
  rw [w1, workR_fit K.fa K.fb]
  simp only [Bm.moved, beq_self_eq_true, bne_self_eq_false, Bool.not_true, Bool.and_true, cond_true, cond_false]
  rw [show a.mx - x + (b.mx + x) = a.mx + b.mx by omega, show a.my - y + (b.my + y) = a.my + b.my by omega, show a.mx - (a.mx - x) = x by omega, show a.my - (a.my - y) = y by omega,
    show W64 x = x from wrap_id (by omega) (by omega), show W64 y = y from wrap_id (by omega) (by omega), decide_eq_true (work_less K), decide_eq_true (show _ ≥ (0 : Int) from work_nn fa fb)]
  simp only [bne_self_eq_false, cond_true, cond_false]
  trivial
abbrev cs_contactKept : List TC := [cBall, cMot, cBall, cMot, cBnc]
def TY_kept (y : TCTs cs_contactKept) : Tree Unit :=
  T_kept (bm y.1 y.2.1) (bm y.2.2.1 y.2.2.2.1) (KickR (bm y.1 y.2.1) (bm y.2.2.1 y.2.2.2.1) y.2.2.2.2.1.1 y.2.2.2.2.1.2.1) (BounceR (bm y.1 y.2.1) (bm y.2.2.1 y.2.2.2.1) y.2.2.2.2.1.1 y.2.2.2.2.1.2.1)
theorem TY_kept_ok (y : TCTs cs_contactKept) (_ : WFDs cs_contactKept y) : (TY_kept y).sat (fun _ => True) := T_kept_ok _ _ _ _
theorem TY_kept_eq (y : TCTs cs_contactKept) : evFn X_contactKept 8 (.fn 7) (encAs cs_contactKept y) noHeap 0 lawK = TY_kept y := by kernel_rfl
theorem contactKept_sat : LawSat X_contactKept 7 cs_contactKept 8 := lawSat 8 TY_kept TY_kept_eq TY_kept_ok
end V
end Go.Proofs.Ytmmhbianajpdgaa
