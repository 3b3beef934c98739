/- Chapter 11: draws that are valid: loops. -/
import Derived.Test.YtgchccljmjmibaaEb
namespace Go.Proofs.Ytgchccljmjmibaa
open Go.RowKit
namespace V
namespace Ev
theorem is_power : FnIs Try.prog (60, Try.f60) := ⟨Try.func60, by kernel_rfl, by kernel_rfl⟩
theorem is_OnesCount : FnIs Try.prog (58, Try.f58) := ⟨Try.func58, by kernel_rfl, by kernel_rfl⟩
theorem is_bLen : FnIs Try.prog (57, Try.f57) := ⟨Try.func57, by kernel_rfl, by kernel_rfl⟩
theorem is_rfind : FnIs Try.prog (62, Try.f62) := ⟨Try.func62, by kernel_rfl, by kernel_rfl⟩
theorem is_eCD : FnIs Try.prog (21, Try.f21) := ⟨Try.func21, by kernel_rfl, by kernel_rfl⟩
theorem is_rCD : FnIs Try.prog (26, Try.f26) := ⟨Try.func26, by kernel_rfl, by kernel_rfl⟩
/-- a power of two, up to 64 -/
def powB (n : Int) : Bool := n == 1 || (n == 2 || (n == 4 || (n == 8 || (n == 16 || (n == 32 || n == 64)))))
abbrev s_pow : PureT := spec [cI] [.b] (fun _ => true) (fun x => (powB x.1, ()))
def T_pow (n : Int) : TBo := orT (n == 1) (orT (n == W64 (2 * 1)) (orT (n == W64 (2 * W64 (2 * 1))) (orT (n == W64 (2 * W64 (2 * W64 (2 * 1)))) (orT (n == W64 (2 * W64 (2 * W64 (2 * W64 (2 * 1))))) (orT (n == W64 (2 * W64 (2 * W64 (2 * W64 (2 * W64 (2 * 1)))))) (bif n == W64 (2 * W64 (2 * W64 (2 * W64 (2 * W64 (2 * W64 (2 * 1)))))) then .leaf (true, ()) else .leaf (false, ())))))))
theorem T_pow_ok (n : Int) : (T_pow n).sat (fun y => y = (powB n, ())) := by
  refine orT_ok (orT_ok (orT_ok (orT_ok (orT_ok (orT_ok (b := n == 64) ?_)))))
  show (bif n == 64 then .leaf (true, ()) else .leaf (false, ()) : TBo).sat _
  cases n == 64 <;> exact rfl
theorem q_pow : PureOk Try.prog 60 s_pow := q_by (ctxU_ok (u := 12) mixed puOk_nil (fns_cons is_power fns_nil)) 3 (fun x => T_pow x.1) (fun x => by kernel_rfl) fun x _ _ => T_pow_ok x.1
noncomputable def plDr : List (Nat × PureT) := [(58, s_oc), (60, s_pow)]
theorem puDr : PuOk Try.prog plDr := puOk_cons is_OnesCount.plain q_oc (puOk_cons is_power.plain q_pow puOk_nil)
noncomputable def XDr : Ctx := ctx Try.prog plDr []
theorem XDr_ok : CtxOk XDr := ctx_ok mixed puDr fns_nil
noncomputable def lb_cd : Code := (loopsOf (bodyOf Try.f21)).getD 0 .skip
def L_cd : Lay := { keys := [0, 4, 20, 21, 22], ks := [.d (.sl cI), .q 0, .d (.sl cI), .d cI, .d cI], bs := [(0, 0, [.m cI cI])], n := 56, nx := 1000, marks := [] }
def R_cd : Lay := { keys := [], ks := [], bs := [], n := 56, nx := 1000, marks := [] }
def Rt_cd : Lay := { keys := [2], ks := [.d cI], bs := [], n := 56, nx := 1000, marks := [] }
def E_cd : XE → Lay := fun e => match e with | .ret => Rt_cd | _ => R_cd
abbrev cCd := L_cd.T ⊕ Left' E_cd
noncomputable def lb_fi : Code := (loopsOf (bodyOf Try.f62)).getD 0 .skip
def L_fi : Lay := { keys := [0, 1, 5], ks := [.d (.sl cI), .d cI, .d cI], bs := [], n := 23, nx := 1000, marks := [] }
def R_fi : Lay := { keys := [], ks := [], bs := [], n := 23, nx := 1000, marks := [] }
def Rt_fi : Lay := { keys := [4], ks := [.d cI], bs := [], n := 23, nx := 1000, marks := [] }
def E_fi : XE → Lay := fun e => match e with | .ret => Rt_fi | _ => R_fi
abbrev cFi := L_fi.T ⊕ Left' E_fi
/-- a map with one entry turned -/
def upd {β : Type} (m : Int → Option β) (k : Int) (v : β) : Int → Option β := fun j => bif beqD cI j k then some v else m j
def xor1 (i : Int) : Int := W64 ↑(BitVec.toNat (BitVec.ofInt (IntKind.bits .i64) i ^^^ BitVec.ofInt (IntKind.bits .i64) 1))
def rt_cd : Left' E_cd := ⟨.ret, ((2, ()), ())⟩
def ex_cd : Left' E_cd := ⟨.exit 0, ((), ())⟩
def hd_cd (l : List Int) (n i : Int) (m : Int → Option Int) : L_cd.T := ((l, (), l, n, i, ()), (m, ()), ())
def nx_cd (m : Int → Option Int) (p : Int) : Int → Option Int := upd m p (W64 ((m p).getD 0 + 1))
def pa_cd (l l2 : List Int) (n i p : Int) (m : Int → Option Int) : Tree cCd := bif p == -1 then inN l.length (xor1 i) (bif getA l (Int.toNat (xor1 i)) (dflt cI) == -1 then .leaf (.inr rt_cd) else .leaf (.inl ((l, (), l2, n, W64 (i + 1), ()), (nx_cd m p, ()), ()))) else .leaf (.inl ((l, (), l2, n, W64 (i + 1), ()), (nx_cd m p, ()), ()))
def bd_cd (l l2 : List Int) (n i p : Int) (m : Int → Option Int) : Tree cCd := bif decide (p < -1) then .leaf (.inr rt_cd) else bif decide (p > 1000) then .leaf (.inr rt_cd) else bif p != -1 then (bif decide ((nx_cd m p p).getD 0 > 1) then .leaf (.inr rt_cd) else pa_cd l l2 n i p m) else pa_cd l l2 n i p m
def sm_cd (l l2 : List Int) (n i : Int) (m : Int → Option Int) : Tree cCd := bif decide (i < n) then inN l2.length i (bd_cd l l2 n i (getA l2 (Int.toNat i) (dflt cI)) m) else .leaf (.inr ex_cd)
def st_cd (g : L_cd.T) : Tree cCd := sm_cd g.1.1 g.1.2.2.1 g.1.2.2.2.1 g.1.2.2.2.2.1 g.2.1.1
def fu_cd (g : L_cd.T) : Nat := (g.1.1 : List Int).length + 1
theorem e_cd (g : L_cd.T) : evC Try.prog (evFn XDr 6) XDr.pures 21 XDr.u (fun _ => none) lb_cd (L_cd.of g) (stepOut L_cd E_cd) = st_cd g := by kernel_rfl
def rt_fi (i : Int) : Left' E_fi := ⟨.ret, ((i, ()), ())⟩
def ex_fi : Left' E_fi := ⟨.exit 0, ((), ())⟩
def hd_fi (l : List Int) (p i : Int) : L_fi.T := ((l, p, i, ()), ())
def sm_fi (l : List Int) (p i : Int) : Tree cFi := bif decide (i < (l.length : Int)) then inN l.length i (bif getA l (Int.toNat i) (dflt cI) == p then bif p != -1 then .leaf (.inr (rt_fi i)) else .leaf (.inl (hd_fi l p (W64 (i + 1)))) else .leaf (.inl (hd_fi l p (W64 (i + 1))))) else .leaf (.inr ex_fi)
def st_fi (g : L_fi.T) : Tree cFi := sm_fi g.1.1 g.1.2.1 g.1.2.2.1
def fu_fi (g : L_fi.T) : Nat := (g.1.1 : List Int).length + 1
theorem e_fi (g : L_fi.T) : evC Try.prog (evFn XDr 6) XDr.pures 62 XDr.u (fun _ => none) lb_fi (L_fi.of g) (stepOut L_fi E_fi) = st_fi g := by kernel_rfl
/-- the slot of a player -/
def fiB (p x : Int) : Bool := (x == p) && (p != -1)
def fiV (l : List Int) (p : Int) : Int := bif l.any (fiB p) then (l.findIdx (fiB p) : Int) else -1
theorem find_run (l : List Int) (p : Int) (hl : (l.length : Int) ≤ maxK .i64) : iter st_fi (l.length + 1) (hd_fi l p 0) = some (bif l.any (fiB p) then rt_fi (l.findIdx (fiB p) : Nat) else ex_fi) := by
  have hl' : (l.length : Int) ≤ 9223372036854775807 := hl
  refine iter_find (st := st_fi) l (fun i => hd_fi l p i) (fiB p) (fun i => rt_fi (i : Int)) ex_fi (fun i hi => ?_) ?_
  · show (sm_fi l p i).run = _
    unfold sm_fi inN
    rw [decide_eq_true (show (i : Int) < (l.length : Int) by omega), decide_eq_true (show 0 ≤ (i : Int) ∧ (i : Int) < (l.length : Int) by omega), show Int.toNat (i : Int) = i by omega, getA_lt hi, W64_id (n := (i : Int) + 1) (by omega) (by omega)]
    unfold fiB
    cases l[i] == p <;> cases p != -1 <;> rfl
  · show (sm_fi l p l.length).run = _
    unfold sm_fi
    rw [decide_eq_false (show ¬ (l.length : Int) < (l.length : Int) by omega)]
    rfl
abbrev s_find : PureT := spec [.sl cI, cI] [cI] (fun _ => true) (fun x => (fiV x.1 x.2.1, ()))
noncomputable def X_fi : Ctx := ctxL Try.prog plDr [(62, Try.f62)] [((62, 2), loopSum L_fi E_fi (finX [.ret, .exit 0] st_fi fu_fi))]
theorem X_fi_ok : CtxOk X_fi := ctxL_ok mixed puDr (fns_cons is_rfind fns_nil) (loops_one (lb := lb_fi) (k := 2) (by kernel_rfl) (by kernel_rfl) (loopOk_x0 XDr_ok 6 _ L_fi E_fi (fun e => by cases e <;> exact Nat.le_refl _) [.ret, .exit 0] _ fu_fi e_fi))
def T_fi (y : Option (Left' E_fi)) : Tree (TCTs [cI]) := bif isE .ret y then .leaf ((valE .ret y).1.1, ()) else bif isE (.exit 0) y then .leaf (-1, ()) else .fail
theorem q_find : PureOk Try.prog 62 s_find := q_by X_fi_ok 6 (fun x => T_fi (iter st_fi (x.1.length + 1) (hd_fi x.1 x.2.1 0))) (fun x => by kernel_rfl) fun x _ hw => by
  show (T_fi (iter st_fi (x.1.length + 1) (hd_fi x.1 x.2.1 0))).sat _
  rw [find_run x.1 x.2.1 hw.1.1]
  unfold fiV
  cases x.1.any (fiB x.2.1) <;> exact rfl
end Ev
end V
end Go.Proofs.Ytgchccljmjmibaa
