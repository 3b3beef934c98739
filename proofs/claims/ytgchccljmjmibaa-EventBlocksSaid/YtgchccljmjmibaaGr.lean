/- Chapter 11: places: a contract: loops. -/
import Derived.Test.YtgchccljmjmibaaGm
import Derived.Test.YtgchccljmjmibaaGng
namespace Go.Proofs.Ytgchccljmjmibaa
open Go.RowKit
namespace V
namespace Ev
theorem is_ipl : FnIs Try.prog (39, Try.f39) := ⟨Try.func39, by kernel_rfl, by kernel_rfl⟩
theorem is_isf : FnIs Try.prog (81, Try.f81) := ⟨Try.func81, by kernel_rfl, by kernel_rfl⟩
theorem is_icl : FnIs Try.prog (80, Try.f80) := ⟨Try.func80, by kernel_rfl, by kernel_rfl⟩
def fu_d1 (g : GPd) : Nat := (g.1.2.2.1 - g.1.2.1 : Int).toNat + 1
noncomputable def s_d1 : St → Tree (XE × St) := loopSum L_d1 E_d1 (finX [.ret] st_d1 fu_d1)
theorem l_d1 : LoopOk Try.prog nPd lb_pd s_d1 := loopOk_x0 XD1_ok 6 _ L_d1 E_d1 (fun _ => Nat.le_refl _) [.ret] st_d1 fu_d1 e_d1
abbrev nPl : Nat := 39
noncomputable def lb_pl : Code := (loopsOf (bodyOf Try.f39)).getD 0 .skip
def L_pl : Lay := { keys := [12, 38, 39, 40], ks := [.o 3 cI, .o 76 cRow, .d cI, .d cI], bs := [], n := 51, nx := 20000, marks := [] }
def R_pl : Lay := { keys := [12], ks := [.o 3 cI], bs := [], n := 51, nx := 20000, marks := [] }
def E_pl : XE → Lay := fun _ => R_pl
def hd_pl (l : Rows) (n : Int) (out : List Int) (i : Int) : L_pl.T := ((out, l, n, i, ()), ())
def ex_pl (out : List Int) : Left' E_pl := ⟨.exit 0, ((out, ()), ())⟩
abbrev cPl := L_pl.T ⊕ Left' E_pl
def sm_pl (l : Rows) (n : Int) (out : List Int) (i : Int) : Tree cPl := bif decide (i < n) then inO l.length i (bif appOk out [(gR l i).1] 8 then .leaf (.inl (hd_pl l n (out ++ [(gR l i).1]) (W64 (i + 1)))) else .fail) else .leaf (.inr (ex_pl out))
def st_pl (g : L_pl.T) : Tree cPl := sm_pl g.1.2.1 g.1.2.2.1 g.1.1 g.1.2.2.2.1
def fu_pl (g : L_pl.T) : Nat := (g.1.2.1 : Rows).length + 1
theorem e_pl (g : L_pl.T) : evC Try.prog (evFn XTb 6) XTb.pures nPl XTb.u (fun _ => none) lb_pl (L_pl.of g) (stepOut L_pl E_pl) = st_pl g := by kernel_rfl
noncomputable def s_pl : St → Tree (XE × St) := loopSum L_pl E_pl (finX [.exit 0] st_pl fu_pl)
theorem l_pl : LoopOk Try.prog nPl lb_pl s_pl := loopOk_x0 XTb_ok 6 _ L_pl E_pl (fun _ => Nat.le_refl _) [.exit 0] st_pl fu_pl e_pl
theorem pl_run (l : Rows) (hl : l.length ≤ 1000) : iter st_pl (l.length + 1) (hd_pl l l.length [] 0) = some (ex_pl (l.map fun r => (r.1 : Int))) := by
  have h := iter_foldl (st := st_pl) l (fun i out => hd_pl l l.length out i) (fun (out : List Int) r => out ++ [r.1]) ex_pl (fun i out => out.length = i) (fun i out hi ho => ⟨?_, by simp [ho]⟩) (fun out _ => ?_) [] rfl
  · rw [h]
    have key : ∀ (l : Rows) (o : List Int), l.foldl (fun (out : List Int) r => out ++ [r.1]) o = o ++ l.map fun r => (r.1 : Int) := by
      intro l
      induction l with
      | nil => intro o; simp
      | cons x l ih => intro o; rw [List.foldl_cons, ih]; simp
    rw [key]
    rfl
  · show (sm_pl l l.length out i).run = _
    unfold sm_pl inO
    rw [decide_eq_true (show (i : Int) < (l.length : Int) by omega), decide_eq_true (show 0 ≤ (i : Int) ∧ (i : Int) < (l.length : Int) by omega), decide_eq_true (show Int.toNat (i : Int) < l.length by omega)]
    simp only [cond_true]
    rw [app_ok (by simp [ho]; omega) (by omega), W64_id (n := (i : Int) + 1) (by omega) (by omega)]
    show some (Sum.inl (hd_pl l l.length (out ++ [(gR l i).1]) _)) = _
    rw [show gR l i = l[i] from by show getA l (Int.toNat (i : Int)) (dflt cRow) = _; rw [show Int.toNat (i : Int) = i by omega, getA_lt hi]]
    rfl
  · show (sm_pl l l.length out l.length).run = _
    unfold sm_pl
    rw [decide_eq_false (show ¬ (l.length : Int) < (l.length : Int) by omega)]
    rfl
noncomputable def plPl : List (Nat × PureT) := (57, s_bl) :: (64, s_chk) :: plCo
noncomputable def XPl : Ctx := ctxS Try.prog plPl [(39, Try.f39), (73, Try.f73), (52, Try.f52), (80, Try.f80), (81, Try.f81), (104, Try.f104)] [((nPd, 2), s_d1), ((nPl, 11), s_pl)] [(65, fspec probeN FL_ct FE_ct fin_ct), (74, fspec probeB FL_tb FE_tb fin_tb)]
end Ev
end V
end Go.Proofs.Ytgchccljmjmibaa
