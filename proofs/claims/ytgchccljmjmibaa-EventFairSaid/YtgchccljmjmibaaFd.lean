/- Chapter 11: Draw of the reference: its loops, step by step. -/
import Derived.Test.YtgchccljmjmibaaFc
namespace Go.Proofs.Ytgchccljmjmibaa
open Go.RowKit
namespace V
namespace Ev
theorem is_rDraw : FnIs Try.prog (27, Try.f27) := ⟨Try.func27, by kernel_rfl, by kernel_rfl⟩
noncomputable def plEw : List (Nat × PureT) := (61, s_ord) :: []
theorem puEw : PuOk Try.prog plEw := puOk_cons is_rord.plain q_rord puOk_nil
noncomputable def XEw : Ctx := ctx Try.prog plEw []
theorem XEw_ok : CtxOk XEw := ctx_ok mixed puEw fns_nil
noncomputable def lb_e0 : Code := (loopsOf (bodyOf Try.f27)).getD 0 .skip
noncomputable def lb_e1 : Code := (loopsOf (bodyOf Try.f27)).getD 1 .skip
noncomputable def lb_e2 : Code := (loopsOf (bodyOf Try.f27)).getD 2 .skip
noncomputable def lb_e3 : Code := (loopsOf (bodyOf Try.f27)).getD 3 .skip
noncomputable def lb_e4 : Code := (loopsOf (bodyOf Try.f27)).getD 4 .skip
def L_e0 : Lay := { keys := [0, 1, 2, 8], ks := [.d cI, .d cI, .d (.sl cI), .d cI], bs := [], n := 128, nx := 1000, marks := [] }
def R_e0 : Lay := { keys := [0, 1, 2], ks := [.d cI, .d cI, .d (.sl cI)], bs := [], n := 128, nx := 1000, marks := [] }
def Rt_e0 : Lay := { keys := [6, 7], ks := [.d (.sl cI), .d cI], bs := [], n := 128, nx := 1000, marks := [] }
def E_e0 : XE → Lay := fun e => match e with | .ret => Rt_e0 | _ => R_e0
abbrev cE0 := L_e0.T ⊕ Left' E_e0
def L_e1 : Lay := { keys := [0, 1, 2, 9, 10, 11], ks := [.d cI, .d cI, .d (.sl cI), .o 3 cI, .o 3 cI, .d cI], bs := [], n := 128, nx := 2000, marks := [] }
def R_e1 : Lay := { keys := [0, 2, 9, 10], ks := [.d cI, .d (.sl cI), .o 3 cI, .o 3 cI], bs := [], n := 128, nx := 2000, marks := [] }
def E_e1 : XE → Lay := fun _ => R_e1
abbrev cE1 := L_e1.T ⊕ Left' E_e1
def L_e2 : Lay := { keys := [0, 2, 9, 10, 12], ks := [.d cI, .d (.sl cI), .o 3 cI, .o 3 cI, .d cI], bs := [], n := 128, nx := 3000, marks := [] }
def R_e2 : Lay := { keys := [0, 9], ks := [.d cI, .o 3 cI], bs := [], n := 128, nx := 3000, marks := [] }
def E_e2 : XE → Lay := fun _ => R_e2
abbrev cE2 := L_e2.T ⊕ Left' E_e2
def L_e3 : Lay := { keys := [0, 9, 14], ks := [.d cI, .o 3 cI, .d cI], bs := [], n := 128, nx := 4000, marks := [] }
def R_e3 : Lay := { keys := [0, 9, 14], ks := [.d cI, .o 3 cI, .d cI], bs := [], n := 128, nx := 4000, marks := [] }
def E_e3 : XE → Lay := fun _ => R_e3
abbrev cE3 := L_e3.T ⊕ Left' E_e3
def L_e4 : Lay := { keys := [0, 9, 14, 15, 16, 17], ks := [.d cI, .o 3 cI, .d cI, .d (.sl cI), .o 3 cI, .d cI], bs := [], n := 128, nx := 5000, marks := [] }
def R_e4 : Lay := { keys := [16], ks := [.o 3 cI], bs := [], n := 128, nx := 5000, marks := [] }
def E_e4 : XE → Lay := fun _ => R_e4
abbrev cE4 := L_e4.T ⊕ Left' E_e4
/-! lots that are refused -/
def hd_e0 (n k : Int) (l : List Int) (i : Int) : L_e0.T := ((n, k, l, i, ()), ())
def ex_e0 (n k : Int) (l : List Int) : Left' E_e0 := ⟨.exit 0, ((n, k, l, ()), ())⟩
def rt_e0 : Left' E_e0 := ⟨.ret, (([], 2, ()), ())⟩
def sm_e0 (n k : Int) (l : List Int) (i : Int) : Tree cE0 := bif decide (i < (l.length : Int)) then inN l.length i (bif decide (getA l (Int.toNat i) 0 < 0) then .leaf (.inr rt_e0) else .leaf (.inl (hd_e0 n k l (W64 (i + 1))))) else .leaf (.inr (ex_e0 n k l))
def st_e0 (g : L_e0.T) : Tree cE0 := sm_e0 g.1.1 g.1.2.1 g.1.2.2.1 g.1.2.2.2.1
def fu_e0 (g : L_e0.T) : Nat := (g.1.2.2.1 : List Int).length + 1
theorem e_e0 (g : L_e0.T) : evC Try.prog (evFn XEw 6) XEw.pures 27 XEw.u (fun _ => none) lb_e0 (L_e0.of g) (stepOut L_e0 E_e0) = st_e0 g := by kernel_rfl
/-! those with a rank, and those without -/
def hd_e1 (n k : Int) (l R L : List Int) (p : Int) : L_e1.T := ((n, k, l, R, L, p, ()), ())
def ex_e1 (n : Int) (l R L : List Int) : Left' E_e1 := ⟨.exit 2, ((n, l, R, L, ()), ())⟩
def sm_e1 (n k : Int) (l R L : List Int) (p : Int) : Tree cE1 := bif decide (p < n) then (bif decide (p < k) then (bif appOk R [p] 8 then .leaf (.inl (hd_e1 n k l (R ++ [p]) L (W64 (p + 1)))) else .fail) else (bif appOk L [p] 8 then .leaf (.inl (hd_e1 n k l R (L ++ [p]) (W64 (p + 1)))) else .fail)) else .leaf (.inr (ex_e1 n l R L))
def st_e1 (g : L_e1.T) : Tree cE1 := sm_e1 g.1.1 g.1.2.1 g.1.2.2.1 g.1.2.2.2.1 g.1.2.2.2.2.1 g.1.2.2.2.2.2.1
def fu_e1 (g : L_e1.T) : Nat := Int.toNat g.1.1 + 1
theorem e_e1 (g : L_e1.T) : evC Try.prog (evFn XEw 6) XEw.pures 27 XEw.u (fun _ => none) lb_e1 (L_e1.of g) (stepOut L_e1 E_e1) = st_e1 g := by kernel_rfl
/-! lots -/
def hd_e2 (n : Int) (l R L : List Int) (i : Int) : L_e2.T := ((n, l, R, L, i, ()), ())
def ex_e2 (n : Int) (R : List Int) : Left' E_e2 := ⟨.exit 4, ((n, R, ()), ())⟩
/-- a window of a list -/
def wnL (L : List Int) (a b : Int) : List Int := (L.drop a.toNat).take (b.toNat - a.toNat)
def t3_e2 (n : Int) (l R L W : List Int) (i j : Int) : Tree cE2 := bif appOk W (wnL L (W64 (j + 1)) (L.length : Int)) 8 then .leaf (.inl (hd_e2 n l R (W ++ wnL L (W64 (j + 1)) (L.length : Int)) (W64 (i + 1)))) else .fail
def t2_e2 (nd : List Int → Tree cE2 → Tree cE2) (n : Int) (l R L : List Int) (i j : Int) : Tree cE2 := wn_d1 0 j (L.length : Int) (wn_d1 0 j (L.length : Int) (wn_d1 (W64 (j + 1)) (L.length : Int) (L.length : Int) (bif appOk ([] : List Int) (wnL L 0 j) 8 then nd L (t3_e2 n l R L (wnL L 0 j) i j) else .fail)))
def t1_e2 (nd : List Int → Tree cE2 → Tree cE2) (n : Int) (l R L : List Int) (i j : Int) : Tree cE2 := inO L.length j (bif appOk R [getA L (Int.toNat j) 0] 8 then t2_e2 nd n l (R ++ [getA L (Int.toNat j) 0]) L i j else .fail)
def sm_e2 (nd : List Int → Tree cE2 → Tree cE2) (n : Int) (l R L : List Int) (i : Int) : Tree cE2 := bif decide (i < (l.length : Int)) then inN l.length i (bif (L.length : Int) != 0 then t1_e2 nd n l R L i (Int.tmod (getA l (Int.toNat i) 0) (L.length : Int)) else .fail) else .leaf (.inr (ex_e2 n R))
def stN_e2 (nd : List Int → Tree cE2 → Tree cE2) (g : L_e2.T) : Tree cE2 := sm_e2 nd g.1.1 g.1.2.1 g.1.2.2.1 g.1.2.2.2.1 g.1.2.2.2.2.1
def nd_e2 (L : List Int) (t : Tree cE2) : Tree cE2 := .need (some (Ob.arr ⟨3, cI, L⟩) = some (Ob.arr ⟨3, cI, L⟩) ∧ True) t
theorem eN_e2 (g : L_e2.T) : evC Try.prog (evFn XEw 6) XEw.pures 27 XEw.u (fun _ => none) lb_e2 (L_e2.of g) (stepOut L_e2 E_e2) = stN_e2 nd_e2 g := by kernel_rfl
def st_e2 (g : L_e2.T) : Tree cE2 := stN_e2 (fun _ t => t) g
def fu_e2 (g : L_e2.T) : Nat := (g.1.2.1 : List Int).length + 1
theorem cond_mono {α : Type} {R : α → Prop} {b : Bool} {s t s' t' : Tree α} (h1 : s.sat R → s'.sat R) (h2 : t.sat R → t'.sat R) (h : (bif b then s else t).sat R) : (bif b then s' else t').sat R := by
  cases b with
  | true => exact h1 h
  | false => exact h2 h
theorem inO_mono {α : Type} {R : α → Prop} {n : Nat} {i : Int} {s t : Tree α} (h : s.sat R → t.sat R) (h2 : (inO n i s).sat R) : (inO n i t).sat R := cond_mono (cond_mono h id) id h2
theorem inN_mono {α : Type} {R : α → Prop} {n : Nat} {i : Int} {s t : Tree α} (h : s.sat R → t.sat R) (h2 : (inN n i s).sat R) : (inN n i t).sat R := cond_mono h id h2
theorem wn_mono {α : Type} {R : α → Prop} {a b n : Int} {s t : Tree α} (h : s.sat R → t.sat R) (h2 : (wn_d1 a b n s).sat R) : (wn_d1 a b n t).sat R := cond_mono h id h2
theorem e_e2 (g : L_e2.T) (R : L_e2.T ⊕ Left' E_e2 → Prop) (h : (st_e2 g).sat R) : (evC Try.prog (evFn XEw 6) XEw.pures 27 XEw.u (fun _ => none) lb_e2 (L_e2.of g) (stepOutZ [] L_e2 E_e2)).sat R := by
  have e : evC Try.prog (evFn XEw 6) XEw.pures 27 XEw.u (fun _ => none) lb_e2 (L_e2.of g) (stepOutZ [] L_e2 E_e2) = stN_e2 nd_e2 g := by kernel_rfl
  rw [e]
  exact cond_mono (inN_mono (cond_mono (inO_mono (cond_mono (wn_mono (wn_mono (wn_mono (cond_mono (fun h => ⟨⟨rfl, trivial⟩, h⟩) id)))) id)) id)) id h
/-! how many slots -/
def hd_e3 (n : Int) (R : List Int) (z : Int) : L_e3.T := ((n, R, z, ()), ())
def ex_e3 (n : Int) (R : List Int) (z : Int) : Left' E_e3 := ⟨.exit 6, ((n, R, z, ()), ())⟩
def sm_e3 (n : Int) (R : List Int) (z : Int) : Tree cE3 := bif decide (z < n) then .leaf (.inl (hd_e3 n R (W64 (2 * z)))) else .leaf (.inr (ex_e3 n R z))
def st_e3 (g : L_e3.T) : Tree cE3 := sm_e3 g.1.1 g.1.2.1 g.1.2.2.1
def fu_e3 (_ : L_e3.T) : Nat := 8
theorem e_e3 (g : L_e3.T) : evC Try.prog (evFn XEw 6) XEw.pures 27 XEw.u (fun _ => none) lb_e3 (L_e3.of g) (stepOut L_e3 E_e3) = st_e3 g := by kernel_rfl
/-! slots -/
def hd_e4 (n : Int) (R : List Int) (z : Int) (o s : List Int) (i : Int) : L_e4.T := ((n, R, z, o, s, i, ()), ())
def ex_e4 (s : List Int) : Left' E_e4 := ⟨.exit 8, ((s, ()), ())⟩
def x_e4 (n : Int) (R : List Int) (z : Int) (o s : List Int) (i x : Int) : Tree cE4 := bif decide (x < n) then inN o.length i (inO R.length x (bif appOk s [getA R (Int.toNat x) 0] 8 then .leaf (.inl (hd_e4 n R z o (s ++ [getA R (Int.toNat x) 0]) (W64 (i + 1)))) else .fail)) else bif appOk s [(-1 : Int)] 8 then .leaf (.inl (hd_e4 n R z o (s ++ [-1]) (W64 (i + 1)))) else .fail
def sm_e4 (n : Int) (R : List Int) (z : Int) (o s : List Int) (i : Int) : Tree cE4 := bif decide (i < z) then inN o.length i (x_e4 n R z o s i (getA o (Int.toNat i) 0)) else .leaf (.inr (ex_e4 s))
def st_e4 (g : L_e4.T) : Tree cE4 := sm_e4 g.1.1 g.1.2.1 g.1.2.2.1 g.1.2.2.2.1 g.1.2.2.2.2.1 g.1.2.2.2.2.2.1
def fu_e4 (g : L_e4.T) : Nat := Int.toNat g.1.2.2.1 + 1
theorem e_e4 (g : L_e4.T) : evC Try.prog (evFn XEw 6) XEw.pures 27 XEw.u (fun _ => none) lb_e4 (L_e4.of g) (stepOut L_e4 E_e4) = st_e4 g := by kernel_rfl
end Ev
end V
end Go.Proofs.Ytgchccljmjmibaa
