/- Chapter 11: Draw: its loops, step by step. -/
import Derived.Test.YtgchccljmjmibaaFb
namespace Go.Proofs.Ytgchccljmjmibaa
open Go.RowKit
namespace V
namespace Ev
theorem is_eDraw : FnIs Try.prog (20, Try.f20) := ⟨Try.func20, by kernel_rfl, by kernel_rfl⟩
noncomputable def plDw : List (Nat × PureT) := (54, s_cfLot) :: (57, s_bl) :: plDr
theorem puDw : PuOk Try.prog plDw := puOk_cons is_cfLot.plain q_cfLot (puOk_cons is_bLen.plain q_bl puDr)
noncomputable def XDw : Ctx := ctx Try.prog plDw []
theorem XDw_ok : CtxOk XDw := ctx_ok mixed puDw fns_nil
noncomputable def lb_d0 : Code := (loopsOf (bodyOf Try.f20)).getD 0 .skip
noncomputable def lb_d1 : Code := (loopsOf (bodyOf Try.f20)).getD 1 .skip
noncomputable def lb_d2 : Code := (loopsOf (bodyOf Try.f20)).getD 2 .skip
def L_d0 : Lay := { keys := [0, 1, 2, 8, 44, 45], ks := [.d cI, .d cI, .d (.sl cI), .o 3 cI, .d cI, .d cI], bs := [], n := 118, nx := 1000, marks := [] }
def R_d0 : Lay := { keys := [0, 1, 2, 8], ks := [.d cI, .d cI, .d (.sl cI), .o 3 cI], bs := [], n := 118, nx := 1000, marks := [] }
def E_d0 : XE → Lay := fun _ => R_d0
abbrev cD0 := L_d0.T ⊕ Left' E_d0
def L_d1 : Lay := { keys := [0, 1, 8, 53, 54, 55], ks := [.d cI, .d cI, .o 3 cI, .d (.sl cI), .d cI, .d cI], bs := [], n := 118, nx := 2000, marks := [] }
def R_d1 : Lay := { keys := [0, 8], ks := [.d cI, .o 3 cI], bs := [], n := 118, nx := 2000, marks := [] }
def E_d1 : XE → Lay := fun _ => R_d1
abbrev cD1 := L_d1.T ⊕ Left' E_d1
def L_d2 : Lay := { keys := [0, 8, 15, 96, 97, 98], ks := [.d cI, .o 3 cI, .w 2001 3 cI, .w 2001 3 cI, .d cI, .d cI], bs := [], n := 118, nx := 3000, marks := [] }
def R_d2 : Lay := { keys := [15], ks := [.w 2001 3 cI], bs := [], n := 118, nx := 3000, marks := [] }
def E_d2 : XE → Lay := fun _ => R_d2
abbrev cD2 := L_d2.T ⊕ Left' E_d2
/-! numbers in order -/
def hd_d0 (n k : Int) (l r : List Int) (m i : Int) : L_d0.T := ((n, k, l, r, m, i, ()), ())
def ex_d0 (n k : Int) (l r : List Int) : Left' E_d0 := ⟨.exit 0, ((n, k, l, r, ()), ())⟩
def sm_d0 (n k : Int) (l r : List Int) (m i : Int) : Tree cD0 := bif decide (i < m) then inO r.length i (.leaf (.inl (hd_d0 n k l (setA r (Int.toNat i) i) m (W64 (i + 1))))) else .leaf (.inr (ex_d0 n k l r))
def st_d0 (g : L_d0.T) : Tree cD0 := sm_d0 g.1.1 g.1.2.1 g.1.2.2.1 g.1.2.2.2.1 g.1.2.2.2.2.1 g.1.2.2.2.2.2.1
def fu_d0 (g : L_d0.T) : Nat := (g.1.2.2.2.1 : List Int).length + 1
theorem e_d0 (g : L_d0.T) : evC Try.prog (evFn XDw 6) XDw.pures 20 XDw.u (fun _ => none) lb_d0 (L_d0.of g) (stepOut L_d0 E_d0) = st_d0 g := by kernel_rfl
/-! lots -/
/-- a window is copied within a list -/
def cpL (xs : List Int) (a b c d : Int) : List Int := xs.take a.toNat ++ ((xs.drop c.toNat).take (min (d.toNat - c.toNat) (b.toNat - a.toNat)) ++ xs.drop (a.toNat + min (d.toNat - c.toNat) (b.toNat - a.toNat)))
def hd_d1 (n k : Int) (r l : List Int) (m i : Int) : L_d1.T := ((n, k, r, l, m, i, ()), ())
def ex_d1 (n : Int) (r : List Int) : Left' E_d1 := ⟨.exit 2, ((n, r, ()), ())⟩
def wn_d1 {β : Type} (a b n : Int) (t : Tree β) : Tree β := bif decide (0 ≤ a ∧ a ≤ b ∧ b ≤ n) then t else .fail
def s2_d1 (n k : Int) (r l : List Int) (m i a p : Int) (r' : List Int) : Tree cD1 := inO r'.length a (.leaf (.inl (hd_d1 n k (setA r' (Int.toNat a) p) l m (W64 (i + 1)))))
def s1_d1 (n k : Int) (r l : List Int) (m i a b : Int) : Tree cD1 := inO r.length b (wn_d1 (W64 (a + 1)) (W64 (b + 1)) (r.length : Int) (wn_d1 a b (r.length : Int) (s2_d1 n k r l m i a (getA r (Int.toNat b) 0) (cpL r (W64 (a + 1)) (W64 (b + 1)) a b))))
def s0_d1 (n k : Int) (r l : List Int) (m i a : Int) : Tree cD1 := bif W64 (n - a) != 0 then s1_d1 n k r l m i a (W64 (a + Int.tmod (getA l (Int.toNat i) 0) (W64 (n - a)))) else .fail
def sm_d1 (n k : Int) (r l : List Int) (m i : Int) : Tree cD1 := bif decide (i < m) then inN l.length i (s0_d1 n k r l m i (W64 (k + i))) else .leaf (.inr (ex_d1 n r))
def st_d1 (g : L_d1.T) : Tree cD1 := sm_d1 g.1.1 g.1.2.1 g.1.2.2.1 g.1.2.2.2.1 g.1.2.2.2.2.1 g.1.2.2.2.2.2.1
def fu_d1 (g : L_d1.T) : Nat := (g.1.2.2.2.1 : List Int).length + 1
theorem e_d1 (g : L_d1.T) : evC Try.prog (evFn XDw 6) XDw.pures 20 XDw.u (fun _ => none) lb_d1 (L_d1.of g) (stepOut L_d1 E_d1) = st_d1 g := by kernel_rfl
/-! slots -/
def hd_d2 (n : Int) (r s : List Int) (m i : Int) : L_d2.T := ((n, r, s, s, m, i, ()), ())
def ex_d2 (s : List Int) : Left' E_d2 := ⟨.exit 4, ((s, ()), ())⟩
def x_d2 (n : Int) (r s : List Int) (m i x : Int) : Tree cD2 := bif decide (x < n) then inO r.length x (inO (setA s (Int.toNat i) (-1)).length i (.leaf (.inl (hd_d2 n r (setA (setA s (Int.toNat i) (-1)) (Int.toNat i) (getA r (Int.toNat x) 0)) m (W64 (i + 1)))))) else .leaf (.inl (hd_d2 n r (setA s (Int.toNat i) (-1)) m (W64 (i + 1))))
def sm_d2 (n : Int) (r s : List Int) (m i : Int) : Tree cD2 := bif decide (i < m) then inO s.length i (inO s.length i (x_d2 n r s m i (getA s (Int.toNat i) 0))) else .leaf (.inr (ex_d2 s))
def st_d2 (g : L_d2.T) : Tree cD2 := sm_d2 g.1.1 g.1.2.1 g.1.2.2.1 g.1.2.2.2.2.1 g.1.2.2.2.2.2.1
def fu_d2 (g : L_d2.T) : Nat := (g.1.2.2.1 : List Int).length + 1
theorem e_d2 (g : L_d2.T) : evC Try.prog (evFn XDw 6) XDw.pures 20 XDw.u (fun _ => none) lb_d2 (L_d2.of g) (stepOut L_d2 E_d2) = st_d2 g := by kernel_rfl
end Ev
end V
end Go.Proofs.Ytgchccljmjmibaa
