/- The law EventOrder: the walk. -/
import Derived.Test.YtgchccljmjmibaaHf
import Derived.Test.YtgchccljmjmibaaGt
import Derived.Test.YtgchccljmjmibaaBb
namespace Go.Proofs.Ytgchccljmjmibaa
open Go.RowKit
namespace V
abbrev cs_eventOrder : List TC := [.sl cI, cI, .sl Ev.cSc, .i .u8, .i .u8, Ev.cSc]
namespace Ev
theorem is_leo : FnIs Try.prog (13, Try.f13) := ⟨Try.func13, by kernel_rfl, by kernel_rfl⟩
abbrev nEo : Nat := 13
noncomputable def plEo : List (Nat × PureT) := (31, s_Counts) :: (33, s_Sides) :: (35, s_Champ) :: (38, s_Table) :: (39, s_Places) :: (37, s_pairs) :: (25, s_ints) :: (15, s_fine) :: []
theorem puEo : PuOk Try.prog plEo := puOk_cons is_eCounts.plain q_Counts (puOk_cons is_eSides.plain q_Sides (puOk_cons is_eChamp.plain q_Champ (puOk_cons is_eTable.plain q_eTable (puOk_cons is_ipl.plain q_ePlaces (puOk_cons is_pairs.plain q_pairs (puOk_cons is_ints.plain q_ints (puOk_cons is_w12.plain q_fine puOk_nil)))))))
noncomputable def lb_eo : Code := (loopsOf (bodyOf Try.f13)).getD 0 .skip
def L_eo : Lay := { keys := [24, 25, 28], ks := [.d (.sl cRow), .d (.sl cRow), .d cI], bs := [], n := 191, nx := 2000, marks := [] }
def Rr_eo : Lay := { keys := [12], ks := [.d .b], bs := [], n := 191, nx := 2000, marks := [] }
def R_eo : Lay := { keys := [], ks := [], bs := [], n := 191, nx := 2000, marks := [] }
def E_eo : XE → Lay := fun e => match e with | .ret => Rr_eo | _ => R_eo
abbrev cEo := L_eo.T ⊕ Left' E_eo
def eqR4 (a b : TCT cRow) : Bool := a.1 == b.1 && (a.2.1 == b.2.1 && (a.2.2.1 == b.2.2.1 && (a.2.2.2.1 == b.2.2.2.1 && true)))
def hd_eo (s t : Rows) (i : Int) : L_eo.T := ((s, t, i, ()), ())
def ex_eo : Left' E_eo := ⟨.exit 0, ((), ())⟩
def rt_eo (c : Bool) : Left' E_eo := ⟨.ret, ((c, ()), ())⟩
def sm_eo (s t : Rows) (i : Int) : Tree cEo := bif decide (i < (s.length : Int)) then inN s.length i (inN t.length i (bif !eqR4 (getA s (Int.toNat i) (dflt cRow)) (getA t (Int.toNat i) (dflt cRow)) then .leaf (.inr (rt_eo false)) else .leaf (.inl (hd_eo s t (W64 (i + 1)))))) else .leaf (.inr ex_eo)
def st_eo (g : L_eo.T) : Tree cEo := sm_eo g.1.1 g.1.2.1 g.1.2.2.1
def fu_eo (g : L_eo.T) : Nat := (g.1.1 : Rows).length + 1
theorem e_eo (g : L_eo.T) : evC Try.prog (evFn XTu 6) XTu.pures nEo XTu.u (fun _ => none) lb_eo (L_eo.of g) (stepOut L_eo E_eo) = st_eo g := by kernel_rfl
theorem l_eo : LoopOk Try.prog nEo lb_eo (loopSum L_eo E_eo (finX [.ret, .exit 0] st_eo fu_eo)) := loopOk_x0 XTu_ok 6 _ L_eo E_eo (fun e => by cases e <;> exact Nat.le_refl _) [.ret, .exit 0] _ fu_eo e_eo
noncomputable def X_eventOrder : Ctx := ctxL Try.prog plEo [(13, Try.f13), (44, Try.f44)] [((nTu, 3), loopSum L_tu E_tu (finX [.exit 0] st_tu fu_tu)), ((nEo, 20), loopSum L_eo E_eo (finX [.ret, .exit 0] st_eo fu_eo))]
theorem X_eventOrder_ok : CtxOk X_eventOrder := ctxL_ok mixed puEo (fns_cons is_leo (fns_cons is_ltu fns_nil)) (loops_cons (loops_of (ds := [lb_eo]) (by kernel_rfl) ⟨one_key (k := 20) (by kernel_rfl) rfl l_eo, trivial⟩) (loops_cons (loops_of (ds := [lb_tu]) (by kernel_rfl) ⟨one_key (k := 3) (by kernel_rfl) rfl l_tu, trivial⟩) loops_nil))
/-! the tree -/
def w2_eo (y : Option (Left' E_eo)) : Tree Unit := bif isE .ret y then (bif (valE (E := E_eo) .ret y).1.1 then .leaf () else .fail) else bif isE (.exit 0) y then .leaf () else .fail
def w1_eo (a b : List (TCT cPq) × Int) (x y : Int × Int) (s t : Rows × Int) (p q : List Int × Int) : Tree Unit :=
  bif !decide (a.1 = b.1) then .fail else bif a.2 != b.2 then .fail else bif x.1 != y.1 then .fail else bif x.2 != y.2 then .fail else
  bif s.2 != t.2 then .fail else bif (s.1.length : Int) != (t.1.length : Int) then .fail else bif !decide (p.1 = q.1) then .fail else bif p.2 != q.2 then .fail else w2_eo (iter st_eo (s.1.length + 1) (hd_eo s.1 t.1 0))
/-- what is asked of the sheets in another order -/
def w0_eo (s : List Int) (n : Int) (l m : List (TCT cSc)) : Tree Unit := w1_eo (sidV s l) (sidV s m) (chaV s l) (chaV s m) (tblV n l, blkV n l) (tblV n m, blkV n m) (plcV n l, blkV n l) (plcV n m, blkV n m)
def v1_eo (s : List Int) (n : Int) (l m : List (TCT cSc)) (x c : TCT cSc) : Tree Unit :=
  bif decide (x.2.1 < c.2.1) then (bif decide (x.2.1 ≥ 0) then (bif decide (x.2.2.1 ≥ 0) then (bif decide (x.2.2.1 ≤ 1) then (bif decide (x.2.2.2.1 ≥ 1) then (bif decide (x.2.2.2.1 ≤ 26) then (bif appOk m [eS x] 32 then w0_eo s n l (m ++ [eS x]) else .fail) else w0_eo s n l m) else w0_eo s n l m) else w0_eo s n l m) else w0_eo s n l m) else w0_eo s n l m) else w0_eo s n l m
def v0_eo (s : List Int) (n : Int) (l m : List (TCT cSc)) (x : TCT cSc) : Tree Unit := bif (coV l x.1).2 == 0 then v1_eo s n l m x (coV l x.1).1 else w0_eo s n l m
def u0_eo (s : List Int) (n : Int) (l : List (TCT cSc)) (y : Option (Left' E_tu)) : Tree Unit := bif isE (.exit 0) y then v0_eo s n l (valE (E := E_tu) (.exit 0) y).1.1 (eS (valE (E := E_tu) (.exit 0) y).2.1) else .fail
def T_eo (s : List Int) (n : Int) (l : List (TCT cSc)) (b t : Int) (x : TCT cSc) : Tree Unit :=
  bif decide ((s.length : Int) > 100) then .leaf () else bif decide ((l.length : Int) > 60) then .leaf () else u0_eo s n l (iter st_tu ((W64 ((l.length : Int) - 1)).toNat + 2) (hd_tu x l b t [] (W64 ((l.length : Int) - 1))))
end Ev
open Ev
theorem T_eo_eq (y : TCTs cs_eventOrder) : evFn X_eventOrder 7 (.fn nEo) (encAs cs_eventOrder y) noHeap 0 lawK = T_eo y.1 y.2.1 y.2.2.1 y.2.2.2.1 y.2.2.2.2.1 y.2.2.2.2.2.1 := by kernel_rfl
end V
end Go.Proofs.Ytgchccljmjmibaa
