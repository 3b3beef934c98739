/- Tick of contact and of its reference: for all arguments the same. -/
import Derived.Test.YtkiaifmbbnnliaaGreatUh
namespace Go.Proofs.YtkiaifmbbnnliaaGreat
open Go.RowKit
namespace V
/-- the ball after a step -/
def stB (a : Bm) : Bm := { a with px := sX a, py := sY a, rx := DR (a.mx + a.rx) (64 * a.m), ry := DR (a.my + a.ry) (64 * a.m) }
def stE : Nat → Bm → Bm
  | 0, a => a
  | k + 1, a => bif fpt (sX a) (sY a) then stE k (stB a) else stB a
/-! the loop of the code -/
abbrev S6 := Int × Int × Int × Int × Int × Int × Unit
/-! the reference's loop -/
def Lrt : Lay := { keys := [2, 3, 4, 6, 7, 8], ks := [.d cI, .p 0 0 0 0, .p 1 0 0 0, .p 2 0 0 0, .d cI, .d cI], bs := [(0, 117, [.d cI, .d cI]), (1, 62, [.d cI, .d cI, .d cI, .d cI, .d cI, .d cI]), (2, 62, [.d cI, .d cI, .d cI, .d cI, .d cI, .d cI])], n := 41, nx := 1000, marks := [] }
def Rgt (t e i : Int) (r : S6) (a : Bm) : Lrt.T := ((t, (), (), (), e, i, ()), (a.m, a.r, ()), (a.px, a.py, a.mx, a.my, a.rx, a.ry, ()), r, ())
def E_rt : XE → Lay := fun _ => Lrt
def hB (g : Lrt.T) : Bm := ⟨g.2.1.1, g.2.1.2.1, g.2.2.1.1, g.2.2.1.2.1, g.2.2.1.2.2.1, g.2.2.1.2.2.2.1, g.2.2.1.2.2.2.2.1, g.2.2.1.2.2.2.2.2.1⟩
def moB (a : Bm) (s : TCT cMot) : Bm := ⟨a.m, a.r, s.1.1, s.1.2.1, s.2.1.1, s.2.1.2.1, s.2.2.1.1, s.2.2.1.2.1⟩
def st_rt (t e i : Int) (r : S6) (a : Bm) : Tree (Lrt.T ⊕ Left' E_rt) :=
  bif decide (i < W64 (16 * t)) then bif (StepR a).2.1 != 0 then .leaf (.inr ⟨.ret, Rgt t (StepR a).2.1 i (0, 0, 0, 0, 0, 0, ()) a⟩) else .leaf (.inl (Rgt t e (W64 (i + 1)) r (moB a (StepR a).1)))
  else .leaf (.inr ⟨.exit 0, Rgt t e i r a⟩)
def plRt : List (Nat × PureT) := (126, s_Step) :: plRs
noncomputable def X_rt : Ctx := ctx Tryz.prog plRt []
theorem puRt : PuOk Tryz.prog plRt := puOk_cons is_rStep.plain q_rStep puRs
theorem X_rt_ok : CtxOk X_rt := ctx_ok mixed puRt fns_nil
end V
end Go.Proofs.YtkiaifmbbnnliaaGreat
