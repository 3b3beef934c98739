/- The law ContactKicks: for all arguments it returns true. -/
import Derived.Test.YtmmhbianajpdgaaUh
import Derived.Test.YtmmhbianajpdgaaVC
namespace Go.Proofs.Ytmmhbianajpdgaa
open Go.RowKit
namespace V
def eqP (p q : TCT cPt) : Bool := p.1 == q.1 && (p.2.1 == q.2.1 && true)
def eqM (s t : TCT cMot) : Bool := eqP s.1 t.1 && (eqP s.2.1 t.2.1 && (eqP s.2.2.1 t.2.2.1 && true))
theorem eqP_self (p : TCT cPt) : eqP p p = true := by unfold eqP; simp only [beq_self_eq_true, Bool.and_self]
theorem eqM_self (p : TCT cMot) : eqM p p = true := by unfold eqM; simp only [eqP_self, Bool.and_self]
theorem is_ContactKicks : FnIs Try.prog (8, Try.f8) := ⟨Try.func8, by kernel_rfl, by kernel_rfl⟩
noncomputable def X_contactKicks : Ctx := ctx Try.prog plO [(8, Try.f8)]
theorem X_contactKicks_ok : CtxOk X_contactKicks := ctx_ok mixed puO (fns_cons is_ContactKicks fns_nil)
def T_kicks (k : RKick) (u : RBnc) (v : RMot) (w : TCTs [cI, cI]) : Tree Unit :=
  bif !eqP k.1 k.1 then .fail else bif k.2.1 != k.2.1 then .fail else bif !eqM u.1 u.1 then .fail else bif !eqM u.2.1 u.2.1 then .fail else bif u.2.2.1 != u.2.2.1 then .fail else
  bif eqM v.1 v.1 then bif v.2.1 == v.2.1 then bif w.1 == w.1 then bif w.2.1 == w.2.1 then .leaf () else .fail else .fail else .fail else .fail
theorem T_kicks_ok (k : RKick) (u : RBnc) (v : RMot) (w : TCTs [cI, cI]) : (T_kicks k u v w).sat (fun _ => True) := by
  unfold T_kicks
  simp only [eqP_self, eqM_self, beq_self_eq_true, bne_self_eq_false, Bool.not_true, cond_true, cond_false]
  trivial
abbrev cs_contactKicks : List TC := [cBall, cMot, cBall, cMot, cDisc, cBnc]
def TY_kicks (y : TCTs cs_contactKicks) : Tree Unit :=
  T_kicks (KickR (bm y.1 y.2.1) (bm y.2.2.1 y.2.2.2.1) y.2.2.2.2.2.1.1 y.2.2.2.2.2.1.2.1) (BounceR (bm y.1 y.2.1) (bm y.2.2.1 y.2.2.2.1) y.2.2.2.2.2.1.1 y.2.2.2.2.2.1.2.1)
    (BumpR (bm y.1 y.2.1) y.2.2.2.2.1.1.1 y.2.2.2.2.1.1.2.1 y.2.2.2.2.1.2.1 y.2.2.2.2.2.1.1 y.2.2.2.2.2.1.2.1) (WorkR (bm y.1 y.2.1) (bm y.2.2.1 y.2.2.2.1))
theorem TY_kicks_ok (y : TCTs cs_contactKicks) (_ : WFDs cs_contactKicks y) : (TY_kicks y).sat (fun _ => True) := T_kicks_ok _ _ _ _
theorem TY_kicks_eq (y : TCTs cs_contactKicks) : evFn X_contactKicks 8 (.fn 8) (encAs cs_contactKicks y) noHeap 0 lawK = TY_kicks y := by kernel_rfl
theorem contactKicks_sat : LawSat X_contactKicks 8 cs_contactKicks 8 := lawSat 8 TY_kicks TY_kicks_eq TY_kicks_ok
end V
end Go.Proofs.Ytmmhbianajpdgaa
