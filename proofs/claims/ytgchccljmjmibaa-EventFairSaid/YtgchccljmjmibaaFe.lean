/- Chapter 11: Draw of both: contexts. -/
import Derived.Test.YtgchccljmjmibaaFd
namespace Go.Proofs.Ytgchccljmjmibaa
open Go.RowKit
namespace V
namespace Ev
noncomputable def lps_d : List ((Nat × Nat) × (St → Tree (XE × St))) := [((20, 9), loopSum L_d0 E_d0 (finX [.exit 0] st_d0 fu_d0)), ((20, 14), loopSum L_d1 E_d1 (finX [.exit 2] st_d1 fu_d1)), ((20, 24), loopSum L_d2 E_d2 (finX [.exit 4] st_d2 fu_d2))]
noncomputable def X_dw : Ctx := ctxS Try.prog plDw [(20, Try.f20)] lps_d [(56, fspec probeZ FL_or FE_or fin_or)]
noncomputable def lps_e : List ((Nat × Nat) × (St → Tree (XE × St))) := [((27, 6), loopSum L_e0 E_e0 (finX [.ret, .exit 0] st_e0 fu_e0)), ((27, 12), loopSum L_e1 E_e1 (finX [.exit 2] st_e1 fu_e1)), ((27, 18), loopSum L_e2 E_e2 (finX [.exit 4] st_e2 fu_e2)), ((27, 24), loopSum L_e3 E_e3 (finX [.exit 6] st_e3 fu_e3)), ((27, 29), loopSum L_e4 E_e4 (finX [.exit 8] st_e4 fu_e4))]
noncomputable def X_ew : Ctx := ctxL Try.prog plEw [(27, Try.f27)] lps_e
abbrev TDw := Tree (TCTs [.sl cI, cI])
def mk8 {β : Type} (n : Int) (k : Tree β) : Tree β := bif decide (0 ≤ n ∧ n ≤ n ∧ n ≤ 65536 ∧ ((8 : Nat) : Int) * n ≤ 281474976710656) then k else .fail
def y2_dw (y : Option (Left' E_d2)) : TDw := bif isE (.exit 4) y then .leaf ((valE (.exit 4) y).1.1, 0, ()) else .fail
def o_dw (n : Int) (r : List Int) (z : Int) : TDw := bif powB z then y2_dw (iter st_d2 ((ordT z.toNat).length + 1) (hd_d2 n r (ordT z.toNat) ((ordT z.toNat).length : Int) 0)) else .fail
def b_dw (n : Int) (r : List Int) (b : Int) : TDw := bif decide (0 ≤ b) then o_dw n r (W64 (1 * 2 ^ min b.toNat (IntKind.bits .i64))) else .fail
def u_dw (n : Int) (r : List Int) (u : Int) : TDw := bif decide (0 ≤ u ∧ u ≤ 64) then b_dw n r (blF u.toNat) else .fail
def w_dw (n : Int) (r : List Int) : TDw := u_dw n r (IntKind.wrap .u64 (W64 (n - 1)))
def y1_dw (y : Option (Left' E_d1)) : TDw := bif isE (.exit 2) y then w_dw (valE (.exit 2) y).1.1 (valE (.exit 2) y).1.2.1 else .fail
def v0_dw (n k : Int) (l r : List Int) : TDw := y1_dw (iter st_d1 (l.length + 1) (hd_d1 n k r l (l.length : Int) 0))
def y0_dw (y : Option (Left' E_d0)) : TDw := bif isE (.exit 0) y then v0_dw (valE (.exit 0) y).1.1 (valE (.exit 0) y).1.2.1 (valE (.exit 0) y).1.2.2.1 (valE (.exit 0) y).1.2.2.2.1 else .fail
def r_dw (n k : Int) (l r : List Int) : TDw := y0_dw (iter st_d0 (r.length + 1) (hd_d0 n k l r (r.length : Int) 0))
def T_dw (n k : Int) (l : List Int) : TDw := bif decide (n < 2) then .leaf ([], 3, ()) else bif decide (n > 64) then .leaf ([], 3, ()) else bif decide (k < 0) then .leaf ([], 3, ()) else bif decide (k > n) then .leaf ([], 3, ()) else bif (l.length : Int) != W64 (n - k) then .leaf ([], 17, ()) else bif l.any (p_Lot ()) then .leaf ([], 2, ()) else mk8 n (r_dw n k l (List.replicate n.toNat 0))
theorem T_dw_eq (x : TCTs [cI, cI, .sl cI]) : evFn X_dw 6 (.fn 20) (encAs [cI, cI, .sl cI] x) noHeap 0 (outK X_dw.P [.sl cI, cI]) = T_dw x.1 x.2.1 x.2.2.1 := by kernel_rfl
def y4_ew (y : Option (Left' E_e4)) : TDw := bif isE (.exit 8) y then .leaf ((valE (.exit 8) y).1.1, 0, ()) else .fail
def o_ew (n : Int) (R : List Int) (z : Int) : TDw := bif powB z then y4_ew (iter st_e4 (z.toNat + 1) (hd_e4 n R z (ordT z.toNat) [] 0)) else .fail
def y3_ew (y : Option (Left' E_e3)) : TDw := bif isE (.exit 6) y then o_ew (valE (.exit 6) y).1.1 (valE (.exit 6) y).1.2.1 (valE (.exit 6) y).1.2.2.1 else .fail
def v2_ew (n : Int) (R : List Int) : TDw := y3_ew (iter st_e3 8 (hd_e3 n R 1))
def y2_ew (y : Option (Left' E_e2)) : TDw := bif isE (.exit 4) y then v2_ew (valE (.exit 4) y).1.1 (valE (.exit 4) y).1.2.1 else .fail
def v1_ew (n : Int) (l R L : List Int) : TDw := y2_ew (iter st_e2 (l.length + 1) (hd_e2 n l R L 0))
def y1_ew (y : Option (Left' E_e1)) : TDw := bif isE (.exit 2) y then v1_ew (valE (.exit 2) y).1.1 (valE (.exit 2) y).1.2.1 (valE (.exit 2) y).1.2.2.1 (valE (.exit 2) y).1.2.2.2.1 else .fail
def v0_ew (n k : Int) (l : List Int) : TDw := y1_ew (iter st_e1 (n.toNat + 1) (hd_e1 n k l [] [] 0))
def y0_ew (y : Option (Left' E_e0)) : TDw := bif isE .ret y then .leaf ((valE .ret y).1.1, (valE .ret y).1.2.1, ()) else bif isE (.exit 0) y then v0_ew (valE (.exit 0) y).1.1 (valE (.exit 0) y).1.2.1 (valE (.exit 0) y).1.2.2.1 else .fail
def T_ew (n k : Int) (l : List Int) : TDw := bif decide (n < 2) then .leaf ([], 3, ()) else bif decide (n > 64) then .leaf ([], 3, ()) else bif decide (k < 0) then .leaf ([], 3, ()) else bif decide (k > n) then .leaf ([], 3, ()) else bif (l.length : Int) != W64 (n - k) then .leaf ([], 17, ()) else y0_ew (iter st_e0 (l.length + 1) (hd_e0 n k l 0))
theorem T_ew_eq (x : TCTs [cI, cI, .sl cI]) : evFn X_ew 6 (.fn 27) (encAs [cI, cI, .sl cI] x) noHeap 0 (outK X_ew.P [.sl cI, cI]) = T_ew x.1 x.2.1 x.2.2.1 := by kernel_rfl
end Ev
end V
end Go.Proofs.Ytgchccljmjmibaa
