import Derived.Test.YtkiaifmbbnnliaaGreatFb
import Derived.Test.YtkiaifmbbnnliaaGreatEr
import Derived.Test.YtkiaifmbbnnliaaGreatDo
namespace Go.Proofs.YtkiaifmbbnnliaaGreat
open Go.RowKit
namespace V
namespace St
theorem is_StrokeKnocks : FnIs Tryz.prog (8, Tryz.f8) := ⟨Tryz.func8, by kernel_rfl, by kernel_rfl⟩
noncomputable def lb_k1 : Code := (loopsOf (bodyOf Tryz.f8)).getD 0 .skip
noncomputable def lb_k2 : Code := (loopsOf (bodyOf Tryz.f8)).getD 1 .skip
def L_k1 : Lay := { keys := [5, 12, 13, 14, 15], ks := [.p 1 0 0 0, .p 7 0 0 0, .d (.sl cKn), .o 4 .b, .d cI], bs := [(1, 38, kSt), (7, 38, kSt)], n := 214, nx := 1000, marks := [] }
def R_k1 : Lay := { keys := [12, 14], ks := [.p 7 0 0 0, .o 4 .b], bs := [(7, 38, kSt)], n := 214, nx := 1000, marks := [] }
def Rf_k1 : Lay := { keys := [8], ks := [.d .b], bs := [], n := 214, nx := 2000, marks := [] }
def E_k1 : XE → Lay := fun e => match e with | .ret => Rf_k1 | _ => R_k1
def L_k2 : Lay := { keys := [12, 14, 17], ks := [.p 7 0 0 0, .o 4 .b, .d cI], bs := [(7, 38, kSt)], n := 214, nx := 2000, marks := [] }
def R_k2 : Lay := { keys := [], ks := [], bs := [], n := 214, nx := 2000, marks := [] }
def E_k2 : XE → Lay := fun e => match e with | .ret => Rf_k1 | _ => R_k2
noncomputable def X_k00 : Ctx := ctx Tryz.prog [] []
theorem X_k00_ok : CtxOk X_k00 := ctx_ok mixed puOk_nil fns_nil
structure QK where
  s : SKTs kSt
  u : SKTs kSt
  k : Kns
def hd_k1 (q : QK) (o : List Bool) (i : Int) : L_k1.T := (((), (), q.k, o, i, ()), (q.s, q.u, ()))
def ex_k1 (q : QK) (o : List Bool) : Left' E_k1 := ⟨.exit 0, (((), o, ()), (q.u, ()))⟩
def rt_k1 : Left' E_k1 := ⟨.ret, ((false, ()), ())⟩
abbrev TK1 := Tree (L_k1.T ⊕ Left' E_k1)
def RK1 : TK1 := .leaf (.inr rt_k1)
def inL1 (o : List Bool) (i : Int) (k : TK1) : TK1 := inN o.length i (bif decide (Int.toNat i < o.length) then k else .fail)
def gO4 (o : List Bool) (i : Int) : Bool := getA o (Int.toNat i) (dflt .b)
def kAt (k : Kns) (i : Int) : TCT cKn := getA k (Int.toNat i) (dflt cKn)
def D_k1 (q : QK) (o : List Bool) (i : Int) (x : TCT cKn) : TK1 := bif x.2.2.1 == 2 then inL1 o x.2.2.2.1 (.leaf (.inl (hd_k1 q (setA o (Int.toNat x.2.2.2.1) true) (W64 (i + 1))))) else .leaf (.inl (hd_k1 q o (W64 (i + 1))))
def C_k1 (q : QK) (o : List Bool) (i : Int) (x : TCT cKn) : TK1 := inL1 o x.2.2.2.1 (bif gO4 o x.2.2.2.1 then RK1 else bif x.2.2.1 == 0 then inL1 o x.2.2.2.2.1 (bif gO4 o x.2.2.2.2.1 then RK1 else D_k1 q o i x) else D_k1 q o i x)
def B_k1 (q : QK) (o : List Bool) (i : Int) (x y : TCT cKn) : TK1 := bif decide (i > 0) then inN q.k.length (W64 (i - 1)) (bif decide (x.1 < y.1) then RK1 else inN q.k.length (W64 (i - 1)) (bif x.1 == y.1 then inN q.k.length (W64 (i - 1)) (bif decide (x.2.1 < y.2.1) then RK1 else C_k1 q o i x) else C_k1 q o i x)) else C_k1 q o i x
def A2_k1 (q : QK) (o : List Bool) (i : Int) (x y : TCT cKn) : TK1 := bif decide (x.1 < q.s.2.2.2.2.1) then RK1 else bif decide (x.1 ≥ q.u.2.2.2.2.1) then RK1 else bif decide (x.2.1 < 1) then RK1 else bif decide (x.2.1 > 16) then RK1 else B_k1 q o i x y
def A_k1 (q : QK) (o : List Bool) (i : Int) (x y : TCT cKn) : TK1 := bif decide (x.2.2.2.1 < 0) then RK1 else bif decide (x.2.2.2.1 ≥ (o.length : Int)) then RK1 else bif decide (x.2.2.1 < 0) then RK1 else bif decide (x.2.2.1 > 2) then RK1 else bif x.2.2.1 == 0 then bif decide (x.2.2.2.2.1 ≤ x.2.2.2.1) then RK1 else bif decide (x.2.2.2.2.1 ≥ (o.length : Int)) then RK1 else A2_k1 q o i x y else A2_k1 q o i x y
def st_k1' (q : QK) (o : List Bool) (i : Int) : TK1 := bif decide (i < (q.k.length : Int)) then inN q.k.length i (A_k1 q o i (kAt q.k i) (kAt q.k (W64 (i - 1)))) else .leaf (.inr (ex_k1 q o))
def st_k1 (g : L_k1.T) : TK1 := st_k1' ⟨g.2.1, g.2.2.1, g.1.2.2.1⟩ g.1.2.2.2.1 g.1.2.2.2.2.1
def fu_k1 (g : L_k1.T) : Nat := (g.1.2.2.1 : Kns).length + 1
theorem E_k1_nx (e : XE) : L_k1.nx ≤ (E_k1 e).nx := by cases e <;> first | exact Nat.le_refl _ | exact (by decide : (1000 : Nat) ≤ 2000)
theorem l_k1 : LoopOk Tryz.prog 8 lb_k1 (loopSum L_k1 E_k1 (finX [.ret, .exit 0] st_k1 fu_k1)) := loopOk_x0 X_k00_ok 7 _ L_k1 E_k1 E_k1_nx [.ret, .exit 0] st_k1 fu_k1 (fun g => by kernel_rfl)
def hd_k2 (u : SKTs kSt) (o : List Bool) (i : Int) : L_k2.T := (((), o, i, ()), (u, ()))
def ex_k2 : Left' E_k2 := ⟨.exit 2, ((), ())⟩
def rt_k2 : Left' E_k2 := ⟨.ret, ((false, ()), ())⟩
abbrev TK2 := Tree (L_k2.T ⊕ Left' E_k2)
def st_k2' (u : SKTs kSt) (o : List Bool) (i : Int) : TK2 := bif decide (i < (o.length : Int)) then inN o.length i (bif decide (Int.toNat i < o.length) then inN (u.2.1 : List Bool).length i (bif !(gO4 o i == gO4 u.2.1 i) then .leaf (.inr rt_k2) else .leaf (.inl (hd_k2 u o (W64 (i + 1))))) else .fail) else .leaf (.inr ex_k2)
def st_k2 (g : L_k2.T) : TK2 := st_k2' g.2.1 g.1.2.1 g.1.2.2.1
def fu_k2 (g : L_k2.T) : Nat := (g.1.2.1 : List Bool).length + 1
theorem l_k2 : LoopOk Tryz.prog 8 lb_k2 (loopSum L_k2 E_k2 (finX [.ret, .exit 2] st_k2 fu_k2)) := loopOk_x0 X_k00_ok 7 _ L_k2 E_k2 (fun e => by cases e <;> exact Nat.le_refl _) [.ret, .exit 2] st_k2 fu_k2 (fun g => by kernel_rfl)
end St
end V
end Go.Proofs.YtkiaifmbbnnliaaGreat
