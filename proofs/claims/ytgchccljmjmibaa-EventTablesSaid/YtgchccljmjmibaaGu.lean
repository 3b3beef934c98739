/- Chapter 11: EventTables: loops. -/
import Derived.Test.YtgchccljmjmibaaGt
import Derived.Test.YtgchccljmjmibaaBk
namespace Go.Proofs.Ytgchccljmjmibaa
open Go.RowKit
namespace V
namespace Ev
theorem is_letb : FnIs Try.prog (11, Try.f11) := ⟨Try.func11, by kernel_rfl, by kernel_rfl⟩
noncomputable def plEt : List (Nat × PureT) := (31, s_Counts) :: (38, s_Table) :: (39, s_Places) :: (19, s_Game) :: (15, s_fine) :: []
noncomputable def XEt : Ctx := ctx Try.prog plEt []
abbrev nEt : Nat := 11
noncomputable def lb_et (k : Nat) : Code := (loopsOf (bodyOf Try.f11)).getD k .skip
def L_e0t : Lay := { keys := [0, 1, 5, 7, 9, 10, 11, 12], ks := [.d cI, .d (.sl cSc), .d (.sl cRow), .d (.sl cI), .d cI, .d cI, .d cI, .d cI], bs := [], n := 286, nx := 1000, marks := [] }
def R_e0t : Lay := { keys := [0, 1, 5, 7, 9, 10, 11], ks := [.d cI, .d (.sl cSc), .d (.sl cRow), .d (.sl cI), .d cI, .d cI, .d cI], bs := [], n := 286, nx := 1000, marks := [] }
def E_e0t : XE → Lay := fun _ => R_e0t
def L_e1t : Lay := { keys := [0, 1, 5, 7, 9, 10, 11, 15, 16], ks := [.d cI, .d (.sl cSc), .d (.sl cRow), .d (.sl cI), .d cI, .d cI, .d cI, .o 3 cI, .d cI], bs := [], n := 286, nx := 2000, marks := [] }
def R_e1t : Lay := { keys := [0, 1, 5, 7, 9, 10, 11, 15], ks := [.d cI, .d (.sl cSc), .d (.sl cRow), .d (.sl cI), .d cI, .d cI, .d cI, .o 3 cI], bs := [], n := 286, nx := 2000, marks := [] }
def Rr_et (nx : Nat) : Lay := { keys := [4], ks := [.d .b], bs := [], n := 286, nx := nx, marks := [] }
def E_e1t : XE → Lay := fun e => match e with | .ret => Rr_et 2000 | _ => R_e1t
def L_e2t : Lay := { keys := [0, 1, 5, 7, 15, 17, 18], ks := [.d cI, .d (.sl cSc), .d (.sl cRow), .d (.sl cI), .o 3 cI, .o 4 .b, .d cI], bs := [], n := 286, nx := 3000, marks := [] }
def R_e2t : Lay := { keys := [], ks := [], bs := [], n := 286, nx := 3000, marks := [] }
def E_e2t : XE → Lay := fun e => match e with | .ret => Rr_et 3000 | _ => R_e2t
abbrev cE0t := L_e0t.T ⊕ Left' E_e0t
abbrev cE1t := L_e1t.T ⊕ Left' E_e1t
abbrev cE2t := L_e2t.T ⊕ Left' E_e2t
abbrev LSc := List (TCT cSc)
/-! games -/
def hd_e0t (n : Int) (l : LSc) (t : Rows) (p : List Int) (wi ne ga g : Int) : L_e0t.T := ((n, l, t, p, ga, wi, ne, g, ()), ())
def ex_e0t (n : Int) (l : LSc) (t : Rows) (p : List Int) (wi ne ga : Int) : Left' E_e0t := ⟨.exit 0, ((n, l, t, p, ga, wi, ne, ()), ())⟩
def sm_e0t (n : Int) (l : LSc) (t : Rows) (p : List Int) (wi ne ga g : Int) : Tree cE0t := bif decide (g < W64 (Int.tdiv (W64 (n * W64 (n - 1))) 2)) then (bif (coV l g).2 == 0 then .leaf (.inl (hd_e0t n l t p wi ne (W64 (ga + 1)) (W64 (g + 1)))) else .leaf (.inl (hd_e0t n l t p wi ne ga (W64 (g + 1))))) else .leaf (.inr (ex_e0t n l t p wi ne ga))
def st_e0t (g : L_e0t.T) : Tree cE0t := sm_e0t g.1.1 g.1.2.1 g.1.2.2.1 g.1.2.2.2.1 g.1.2.2.2.2.2.1 g.1.2.2.2.2.2.2.1 g.1.2.2.2.2.1 g.1.2.2.2.2.2.2.2.1
def fu_e0t (g : L_e0t.T) : Nat := (W64 (Int.tdiv (W64 (g.1.1 * W64 (g.1.1 - 1))) 2)).toNat + 1
theorem e_e0t (g : L_e0t.T) : evC Try.prog (evFn XEt 6) XEt.pures nEt XEt.u (fun _ => none) (lb_et 0) (L_e0t.of g) (stepOut L_e0t E_e0t) = st_e0t g := by kernel_rfl
/-! sums -/
structure S1t where
  wi : Int
  ne : Int
  ws : List Int
def hd_e1t (n : Int) (l : LSc) (t : Rows) (p : List Int) (ga : Int) (s : S1t) (i : Int) : L_e1t.T := ((n, l, t, p, ga, s.wi, s.ne, s.ws, i, ()), ())
def ex_e1t (n : Int) (l : LSc) (t : Rows) (p : List Int) (ga : Int) (s : S1t) : Left' E_e1t := ⟨.exit 2, ((n, l, t, p, ga, s.wi, s.ne, s.ws, ()), ())⟩
def rt_e1t (c : Bool) : Left' E_e1t := ⟨.ret, ((c, ()), ())⟩
def ad_e1t (s : S1t) (x : Row) : S1t := ⟨W64 (s.wi + x.2.2.1), W64 (s.ne + x.2.2.2.1), setA s.ws (Int.toNat x.2.2.1) (W64 (getA s.ws (Int.toNat x.2.2.1) (dflt cI) + 1))⟩
def bd_e1t (n : Int) (l : LSc) (t : Rows) (p : List Int) (ga : Int) (s : S1t) (i : Int) (x : Row) : Tree cE1t :=
  inN t.length i (inN t.length i (inN t.length i (bif x.1 != i then .leaf (.inr (rt_e1t false)) else inN t.length i (bif decide (x.2.2.1 < 0) then .leaf (.inr (rt_e1t false)) else inN t.length i (inN t.length i (bif decide (x.2.2.1 > x.2.1) then .leaf (.inr (rt_e1t false)) else inN t.length i (bif decide (x.2.1 > W64 (n - 1)) then .leaf (.inr (rt_e1t false)) else
    inN t.length i (inO s.ws.length x.2.2.1 (inO s.ws.length x.2.2.1 (.leaf (.inl (hd_e1t n l t p ga (ad_e1t s x) (W64 (i + 1))))))))))))))
def sm_e1t (n : Int) (l : LSc) (t : Rows) (p : List Int) (ga : Int) (s : S1t) (i : Int) : Tree cE1t := bif decide (i < n) then bd_e1t n l t p ga s i (gR t i) else .leaf (.inr (ex_e1t n l t p ga s))
def st_e1t (g : L_e1t.T) : Tree cE1t := sm_e1t g.1.1 g.1.2.1 g.1.2.2.1 g.1.2.2.2.1 g.1.2.2.2.2.1 ⟨g.1.2.2.2.2.2.1, g.1.2.2.2.2.2.2.1, g.1.2.2.2.2.2.2.2.1⟩ g.1.2.2.2.2.2.2.2.2.1
def fu_e1t (g : L_e1t.T) : Nat := (g.1.1 : Int).toNat + 1
theorem e_e1t (g : L_e1t.T) : evC Try.prog (evFn XEt 6) XEt.pures nEt XEt.u (fun _ => none) (lb_et 1) (L_e1t.of g) (stepOut L_e1t E_e1t) = st_e1t g := by kernel_rfl
/-! places -/
def hd_e2t (n : Int) (l : LSc) (t : Rows) (p ws : List Int) (se : List Bool) (i : Int) : L_e2t.T := ((n, l, t, p, ws, se, i, ()), ())
def ex_e2t : Left' E_e2t := ⟨.exit 4, ((), ())⟩
def rt_e2t (c : Bool) : Left' E_e2t := ⟨.ret, ((c, ()), ())⟩
def gI (p : List Int) (i : Int) : Int := getA p (Int.toNat i) (dflt cI)
section
variable (n : Int) (l : LSc) (t : Rows) (p ws : List Int) (se : List Bool) (i : Int)
def gm_e2t (a b : Int) (N F : Tree cE2t) : Tree cE2t := bif (gameV n a b).2 == 0 then (bif (coV l (gameV n a b).1).2 == 0 then inN t.length a (inN t.length b (bif (gR t a).2.2.1 == (gR t b).2.2.1 then inN t.length a (inO ws.length (gR t a).2.2.1 (bif gI ws (gR t a).2.2.1 == 2 then (bif !((coV l (gameV n a b).1).1.2.2.1 == 0) == decide (a < b) then F else N) else N)) else N)) else N) else N
def nb_e2t (a b : Int) (N F : Tree cE2t) : Tree cE2t := inN t.length a (inN t.length b (bif decide ((gR t a).2.2.1 < (gR t b).2.2.1) then F else gm_e2t n l t ws a b N F))
def bd_e2t (x : Int) (N F : Tree cE2t) : Tree cE2t := inN p.length i (bif decide (x < 0) then F else inN p.length i (bif decide (x ≥ n) then F else inN p.length i (inO se.length x (bif getA se (Int.toNat x) (dflt TC.b) then F else inN p.length i (inO se.length x (bif i == 0 then N else inN p.length (W64 (i - 1)) (inN p.length i (nb_e2t n l t ws (gI p (W64 (i - 1))) x N F))))))))
def sm_e2t : Tree cE2t := bif decide (i < n) then bd_e2t n l t p ws se i (gI p i) (.leaf (.inl (hd_e2t n l t p ws (setA se (Int.toNat (gI p i)) true) (W64 (i + 1))))) (.leaf (.inr (rt_e2t false))) else .leaf (.inr ex_e2t)
end
def st_e2t (g : L_e2t.T) : Tree cE2t := sm_e2t g.1.1 g.1.2.1 g.1.2.2.1 g.1.2.2.2.1 g.1.2.2.2.2.1 g.1.2.2.2.2.2.1 g.1.2.2.2.2.2.2.1
def fu_e2t (g : L_e2t.T) : Nat := (g.1.1 : Int).toNat + 1
theorem e_e2t (g : L_e2t.T) : evC Try.prog (evFn XEt 6) XEt.pures nEt XEt.u (fun _ => none) (lb_et 2) (L_e2t.of g) (stepOut L_e2t E_e2t) = st_e2t g := by kernel_rfl
end Ev
end V
end Go.Proofs.Ytgchccljmjmibaa
