/- Chapter 11: places: a run in order; patterns: loops. -/
import Derived.Test.YtgchccljmjmibaaGi
namespace Go.Proofs.Ytgchccljmjmibaa
open Go.RowKit
namespace V
namespace Ev
theorem is_ipis : FnIs Try.prog (112, Try.f112) := ⟨Try.func112, by kernel_rfl, by kernel_rfl⟩
theorem is_ibp : FnIs Try.prog (109, Try.f109) := ⟨Try.func109, by kernel_rfl, by kernel_rfl⟩
theorem is_ixs : FnIs Try.prog (117, Try.f117) := ⟨Try.func117, by kernel_rfl, by kernel_rfl⟩
theorem is_inp2 : FnIs Try.prog (116, Try.f116) := ⟨Try.func116, by kernel_rfl, by kernel_rfl⟩
noncomputable def XS0 : Ctx := { XSo with u := 0 }
theorem XS0_ok : CtxOk XS0 := ⟨XSo_ok.mix, XSo_ok.pures, XSo_ok.fns, XSo_ok.specs⟩
abbrev nPi : Nat := 112
abbrev nBp : Nat := 109
noncomputable def lb_pi (k : Nat) : Code := (loopsOf (bodyOf Try.f112)).getD k .skip
noncomputable def lb_bp : Code := (loopsOf (bodyOf Try.f109)).getD 0 .skip
abbrev ks_pi : List SK := [kDat, .d cI, .d cI, kCmp, .d cI, .d cI]
abbrev GPi := SKTs ks_pi × BTs bs_so
def L_q1 : Lay := { keys := [0, 1, 2, 3, 9, 10], ks := ks_pi, bs := bs_so, n := 141, nx := 3500, marks := [] }
def E_q1 : XE → Lay := fun _ => L_q1
def L_q0 : Lay := { keys := [0, 1, 2, 3, 9, 10], ks := ks_pi, bs := bs_so, n := 141, nx := 3000, marks := [] }
def R_q0 : Lay := { keys := [0, 8], ks := [kDat, .d .b], bs := bs_so, n := 141, nx := 3000, marks := [] }
def E_q0 : XE → Lay := fun _ => R_q0
def hd_pi (z : BAm) (a b : Int) (d : Rows) (i j : Int) : GPi := ((d, a, b, ((), ((), ())), i, j, ()), bsO z)
abbrev cU : TC := .i .u64
noncomputable def XBp : Ctx := ctxU 4 Try.prog [] [(117, Try.f117)]
theorem XBp_ok : CtxOk XBp := ctxU_ok (u := 4) mixed puOk_nil (fns_cons is_ixs fns_nil)
def L_bp : Lay := { keys := [0, 1, 8, 9, 10, 11], ks := [kDat, .d cI, .d cI, .p 1000 0 0 0, .d cU, .d cI], bs := (1000, 161, [.d cU]) :: bs_so, n := 67, nx := 2000, marks := [] }
def R_bp : Lay := { keys := [0], ks := [kDat], bs := bs_so, n := 67, nx := 2000, marks := [] }
def E_bp : XE → Lay := fun _ => R_bp
def hd_bp (z : BAm) (a len : Int) (mo : Int) (d : Rows) (r : Int) (idx : Int) : L_bp.T := ((d, a, len, (), mo, idx, ()), ((r, ()), bsO z))
/-! patterns -/
def xo64 (x y : Int) : Int := IntKind.wrap .u64 ↑(BitVec.toNat (BitVec.ofInt (IntKind.bits .u64) x ^^^ BitVec.ofInt (IntKind.bits .u64) y))
def xsL (k : Int) (r : Int) : Int := xo64 r (IntKind.wrap .u64 (r * 2 ^ min (Int.toNat k) (IntKind.bits .u64)))
def xsR (r : Int) : Int := xo64 r (Int.fdiv r (2 ^ min (Int.toNat 7) (IntKind.bits .u64)))
def xsN (r : Int) : Int := xsL 17 (xsR (xsL 13 r))
def anU (r mo : Int) : Int := W64 (IntKind.wrap .u64 ↑(BitVec.toNat (BitVec.ofInt (IntKind.bits .u64) (xsN r) &&& BitVec.ofInt (IntKind.bits .u64) (IntKind.wrap .u64 (mo - 1)))))
abbrev cBp := L_bp.T ⊕ Left' E_bp
def ex_bp (z : BAm) (d : Rows) : Left' E_bp := ⟨.exit 0, ((d, ()), bsO z)⟩
def ot_bp (z : BAm) (a len mo : Int) (d : Rows) (r idx o : Int) : Tree cBp := swT d idx (W64 (a + o)) fun d => .leaf (.inl (hd_bp z a len mo d (xsN r) (W64 (idx + 1))))
def sm_bp (z : BAm) (a len mo : Int) (d : Rows) (r idx : Int) : Tree cBp := bif decide (idx ≤ W64 (W64 (a + W64 (W64 (Int.tdiv len 4) * 2)) + 1)) then (bif decide (anU r mo ≥ len) then ot_bp z a len mo d r idx (W64 (anU r mo - len)) else ot_bp z a len mo d r idx (anU r mo)) else .leaf (.inr (ex_bp z d))
def st_bp (g : L_bp.T) : Tree cBp := sm_bp (zO g.2.2) g.1.2.1 g.1.2.2.1 g.1.2.2.2.2.1 g.1.1 g.2.1.1 g.1.2.2.2.2.2.1
theorem e_bp (g : L_bp.T) : evC Try.prog (evFn XBp 6) XBp.pures nBp XBp.u (fun _ => none) lb_bp (L_bp.of g) (stepOut L_bp E_bp) = st_bp g := by kernel_rfl
noncomputable def s_bp : St → Tree (XE × St) := loopSum L_bp E_bp (finX [.exit 0] st_bp (fun _ => 4))
theorem l_bp : LoopOk Try.prog nBp lb_bp s_bp := loopOk_x0 XBp_ok 6 _ L_bp E_bp (fun _ => Nat.le_refl _) [.exit 0] st_bp (fun _ => 4) e_bp
/-! a run in order -/
def ex_q1 (g : GPi) : Left' E_q1 := ⟨.exit 2, g⟩
def sm_q1 (z : BAm) (a b : Int) (d : Rows) (i j : Int) : Tree (GPi ⊕ Left' E_q1) := bif decide (i < b) then cpT z d i (W64 (i - 1)) fun c => bif !c then .leaf (.inl (hd_pi z a b d (W64 (i + 1)) j)) else .leaf (.inr (ex_q1 (hd_pi z a b d i j))) else .leaf (.inr (ex_q1 (hd_pi z a b d i j)))
def st_q1 (g : GPi) : Tree (GPi ⊕ Left' E_q1) := sm_q1 (zO g.2) g.1.2.1 g.1.2.2.1 g.1.1 g.1.2.2.2.2.1 g.1.2.2.2.2.2.1
def fu_q1 (g : GPi) : Nat := (g.1.2.2.1 - g.1.2.2.2.2.1 : Int).toNat + 1
theorem e_q1 (g : L_q1.T) : evC Try.prog (evFn XSo 6) XSo.pures nPi XSo.u (fun _ => none) (lb_pi 1) (L_q1.of g) (stepOut L_q1 E_q1) = st_q1 g := by kernel_rfl
noncomputable def s_q1 : St → Tree (XE × St) := loopSum L_q1 E_q1 (finX [.exit 2] st_q1 fu_q1)
theorem l_q1 : LoopOk Try.prog nPi (lb_pi 1) s_q1 := loopOk_x0 XSo_ok 6 _ L_q1 E_q1 (fun _ => Nat.le_refl _) [.exit 2] st_q1 fu_q1 e_q1
noncomputable def Lt_q0 : LoopT := assoc2 [((nPi, 5), s_q1)] nPi
abbrev cQ0 := GPi ⊕ Left' E_q0
def rt_q0 (z : BAm) (d : Rows) (c : Bool) : Left' E_q0 := ⟨.ret, ((d, c, ()), bsO z)⟩
def re_q0 (z : BAm) (a b : Int) (d : Rows) (i j : Int) : Tree cQ0 := swT d i (W64 (i - 1)) fun d => bif decide (W64 (i - a) ≥ 2) then .fail else bif decide (W64 (b - i) ≥ 2) then .fail else .leaf (.inl (hd_pi z a b d i (W64 (j + 1))))
def fi_q0 (z : BAm) (a b : Int) (d : Rows) (i j : Int) : Tree cQ0 := bif i == b then .leaf (.inr (rt_q0 z d true)) else bif decide (W64 (b - a) < 50) then .leaf (.inr (rt_q0 z d false)) else re_q0 z a b d i j
def fj_q0 (g : GPi) : Tree cQ0 := fi_q0 (zO g.2) g.1.2.1 g.1.2.2.1 g.1.1 g.1.2.2.2.2.1 g.1.2.2.2.2.2.1
def st_q0 (g : L_q0.T) : Tree cQ0 := bif decide ((g.1.2.2.2.2.2.1 : Int) < 5) then (bif isE (.exit 2) (iter st_q1 (fu_q1 g) g) then fj_q0 (valE (E := E_q1) (.exit 2) (iter st_q1 (fu_q1 g) g)) else .fail) else .fail
theorem e_q0 (g : L_q0.T) : evC Try.prog (evFn XS0 6) XS0.pures nPi XS0.u Lt_q0 (lb_pi 0) (L_q0.of g) (stepOut L_q0 E_q0) = st_q0 g := by kernel_rfl
noncomputable def s_q0 : St → Tree (XE × St) := loopSum L_q0 E_q0 (finX [.ret] st_q0 (fun _ => 1))
theorem loops_q0 : loopsOf (lb_pi 0) = [lb_pi 1, lb_pi 2, lb_pi 3] := by kernel_rfl
theorem key_q1 : keyOf (lb_pi 1) = 5 := by kernel_rfl
theorem key_q2 : keyOf (lb_pi 2) = 14 := by kernel_rfl
theorem key_q3 : keyOf (lb_pi 3) = 20 := by kernel_rfl
theorem l_q0 : LoopOk Try.prog nPi (lb_pi 0) s_q0 := loopOk_x XS0_ok 6 _ Lt_q0 (fun d hd f hf => by
  rw [loops_q0] at hd
  rcases List.mem_cons.1 hd with rfl | hd
  · rw [key_q1] at hf
    cases hf
    exact l_q1
  rcases List.mem_cons.1 hd with rfl | hd
  · rw [key_q2] at hf
    cases hf
  · rw [List.mem_singleton] at hd
    subst hd
    rw [key_q3] at hf
    cases hf) L_q0 E_q0 (fun _ => Nat.le_refl _) [.ret] st_q0 (fun _ => 1) e_q0
end Ev
end V
end Go.Proofs.Ytgchccljmjmibaa
