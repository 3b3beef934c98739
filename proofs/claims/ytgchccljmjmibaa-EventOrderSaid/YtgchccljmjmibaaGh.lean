/- Chapter 11: places: partition: loops. -/
import Derived.Test.YtgchccljmjmibaaGg
namespace Go.Proofs.Ytgchccljmjmibaa
open Go.RowKit
namespace V
namespace Ev
theorem is_ipart : FnIs Try.prog (114, Try.f114) := ⟨Try.func114, by kernel_rfl, by kernel_rfl⟩
noncomputable def lb_pt (k : Nat) : Code := (loopsOf (bodyOf Try.f114)).getD k .skip
abbrev ks_pt : List SK := [kDat, .d cI, kCmp, .d cI, .d cI]
abbrev GPt := SKTs ks_pt × BTs bs_so
def L_p0 : Lay := { keys := [0, 1, 4, 12, 13], ks := ks_pt, bs := bs_so, n := 178, nx := 4000, marks := [] }
def L_p1 : Lay := { keys := [0, 1, 4, 12, 13], ks := ks_pt, bs := bs_so, n := 178, nx := 5000, marks := [] }
def L_p2 : Lay := { keys := [0, 1, 4, 12, 13], ks := ks_pt, bs := bs_so, n := 178, nx := 6000, marks := [] }
def L_p3 : Lay := { keys := [0, 1, 4, 12, 13], ks := ks_pt, bs := bs_so, n := 178, nx := 7000, marks := [] }
def L_p4 : Lay := { keys := [0, 1, 4, 12, 13], ks := ks_pt, bs := bs_so, n := 178, nx := 8000, marks := [] }
def R_p2 : Lay := { keys := [0, 1, 13], ks := [kDat, .d cI, .d cI], bs := bs_so, n := 178, nx := 6000, marks := [] }
def E_p0 : XE → Lay := fun _ => L_p0
def E_p1 : XE → Lay := fun _ => L_p1
def E_p2 : XE → Lay := fun _ => R_p2
def E_p3 : XE → Lay := fun _ => L_p3
def E_p4 : XE → Lay := fun _ => L_p4
def hd_pt (z : BAm) (a : Int) (d : Rows) (i j : Int) : GPt := ((d, a, ((), ((), ())), i, j, ()), bsO z)
def ex_p0 (g : GPt) : Left' E_p0 := ⟨.exit 0, g⟩
def ex_p1 (g : GPt) : Left' E_p1 := ⟨.exit 2, g⟩
def ex_p3 (g : GPt) : Left' E_p3 := ⟨.exit 6, g⟩
def ex_p4 (g : GPt) : Left' E_p4 := ⟨.exit 8, g⟩
section
variable {E : Type} (ex : GPt → E) (z : BAm) (a : Int) (d : Rows) (i j : Int)
def sm_up : Tree (GPt ⊕ E) := bif decide (i ≤ j) then cpT z d i a fun c => bif c then .leaf (.inl (hd_pt z a d (W64 (i + 1)) j)) else .leaf (.inr (ex (hd_pt z a d i j))) else .leaf (.inr (ex (hd_pt z a d i j)))
def sm_dn : Tree (GPt ⊕ E) := bif decide (i ≤ j) then cpT z d j a fun c => bif !c then .leaf (.inl (hd_pt z a d i (W64 (j - 1)))) else .leaf (.inr (ex (hd_pt z a d i j))) else .leaf (.inr (ex (hd_pt z a d i j)))
end
def st_up {E : Type} (ex : GPt → E) (g : GPt) : Tree (GPt ⊕ E) := sm_up ex (zO g.2) g.1.2.1 g.1.1 g.1.2.2.2.1 g.1.2.2.2.2.1
def st_dn {E : Type} (ex : GPt → E) (g : GPt) : Tree (GPt ⊕ E) := sm_dn ex (zO g.2) g.1.2.1 g.1.1 g.1.2.2.2.1 g.1.2.2.2.2.1
def fu_pt (g : GPt) : Nat := (g.1.2.2.2.2.1 + 1 - g.1.2.2.2.1 : Int).toNat + 1
theorem e_p0 (g : L_p0.T) : evC Try.prog (evFn XSo 6) XSo.pures 114 XSo.u (fun _ => none) (lb_pt 0) (L_p0.of g) (stepOut L_p0 E_p0) = st_up ex_p0 g := by kernel_rfl
theorem e_p1 (g : L_p1.T) : evC Try.prog (evFn XSo 6) XSo.pures 114 XSo.u (fun _ => none) (lb_pt 1) (L_p1.of g) (stepOut L_p1 E_p1) = st_dn ex_p1 g := by kernel_rfl
theorem e_p3 (g : L_p3.T) : evC Try.prog (evFn XSo 6) XSo.pures 114 XSo.u (fun _ => none) (lb_pt 3) (L_p3.of g) (stepOut L_p3 E_p3) = st_up ex_p3 g := by kernel_rfl
theorem e_p4 (g : L_p4.T) : evC Try.prog (evFn XSo 6) XSo.pures 114 XSo.u (fun _ => none) (lb_pt 4) (L_p4.of g) (stepOut L_p4 E_p4) = st_dn ex_p4 g := by kernel_rfl
abbrev nPt : Nat := 114
noncomputable def s_p0 : St → Tree (XE × St) := loopSum L_p0 E_p0 (finX [.exit 0] (st_up ex_p0) fu_pt)
noncomputable def s_p1 : St → Tree (XE × St) := loopSum L_p1 E_p1 (finX [.exit 2] (st_dn ex_p1) fu_pt)
noncomputable def s_p3 : St → Tree (XE × St) := loopSum L_p3 E_p3 (finX [.exit 6] (st_up ex_p3) fu_pt)
noncomputable def s_p4 : St → Tree (XE × St) := loopSum L_p4 E_p4 (finX [.exit 8] (st_dn ex_p4) fu_pt)
theorem l_p0 : LoopOk Try.prog nPt (lb_pt 0) s_p0 := loopOk_x0 XSo_ok 6 _ L_p0 E_p0 (fun _ => Nat.le_refl _) [.exit 0] (st_up ex_p0) fu_pt e_p0
theorem l_p1 : LoopOk Try.prog nPt (lb_pt 1) s_p1 := loopOk_x0 XSo_ok 6 _ L_p1 E_p1 (fun _ => Nat.le_refl _) [.exit 2] (st_dn ex_p1) fu_pt e_p1
theorem l_p3 : LoopOk Try.prog nPt (lb_pt 3) s_p3 := loopOk_x0 XSo_ok 6 _ L_p3 E_p3 (fun _ => Nat.le_refl _) [.exit 6] (st_up ex_p3) fu_pt e_p3
theorem l_p4 : LoopOk Try.prog nPt (lb_pt 4) s_p4 := loopOk_x0 XSo_ok 6 _ L_p4 E_p4 (fun _ => Nat.le_refl _) [.exit 8] (st_dn ex_p4) fu_pt e_p4
noncomputable def Lt_p2 : LoopT := assoc2 [((nPt, 13), s_p3), ((nPt, 15), s_p4)] nPt
abbrev cP2 := GPt ⊕ Left' E_p2
def ex_p2 (z : BAm) (a : Int) (d : Rows) (j : Int) : Left' E_p2 := ⟨.exit 4, ((d, a, j, ()), bsO z)⟩
def fi_p2 (z : BAm) (a : Int) (d : Rows) (i j : Int) : Tree cP2 := bif decide (i > j) then .leaf (.inr (ex_p2 z a d j)) else swT d i j fun d => .leaf (.inl (hd_pt z a d (W64 (i + 1)) (W64 (j - 1))))
def fj_p2 (g : GPt) : Tree cP2 := fi_p2 (zO g.2) g.1.2.1 g.1.1 g.1.2.2.2.1 g.1.2.2.2.2.1
def dn_p2 (g : GPt) : Tree cP2 := bif isE (.exit 8) (iter (st_dn ex_p4) (fu_pt g) g) then fj_p2 (valE (E := E_p4) (.exit 8) (iter (st_dn ex_p4) (fu_pt g) g)) else .fail
def st_p2 (g : GPt) : Tree cP2 := bif isE (.exit 6) (iter (st_up ex_p3) (fu_pt g) g) then dn_p2 (valE (E := E_p3) (.exit 6) (iter (st_up ex_p3) (fu_pt g) g)) else .fail
theorem e_p2 (g : L_p2.T) : evC Try.prog (evFn XSo 6) XSo.pures nPt XSo.u Lt_p2 (lb_pt 2) (L_p2.of g) (stepOut L_p2 E_p2) = st_p2 g := by kernel_rfl
theorem loops_p2 : loopsOf (lb_pt 2) = [lb_pt 3, lb_pt 4] := by kernel_rfl
theorem key_p3 : keyOf (lb_pt 3) = 13 := by kernel_rfl
theorem key_p4 : keyOf (lb_pt 4) = 15 := by kernel_rfl
noncomputable def s_p2 : St → Tree (XE × St) := loopSum L_p2 E_p2 (finX [.exit 4] st_p2 fu_pt)
theorem l_p2 : LoopOk Try.prog nPt (lb_pt 2) s_p2 := loopOk_x XSo_ok 6 _ Lt_p2 (fun d hd f hf => by
  rw [loops_p2] at hd
  rcases List.mem_cons.1 hd with rfl | hd
  · rw [key_p3] at hf
    cases hf
    exact l_p3
  · rw [List.mem_singleton] at hd
    subst hd
    rw [key_p4] at hf
    cases hf
    exact l_p4) L_p2 E_p2 (fun _ => Nat.le_refl _) [.exit 4] st_p2 fu_pt e_p2
end Ev
end V
end Go.Proofs.Ytgchccljmjmibaa
