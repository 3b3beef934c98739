/- The law EventRounds: its contexts, its loops, step by step. -/
import Derived.Test.YtgchccljmjmibaaBg
import Derived.Test.YtgchccljmjmibaaZz
import Derived.Test.YtgchccljmjmibaaBb
namespace Go.Proofs.Ytgchccljmjmibaa
open Go.RowKit
namespace V
namespace Ev
/-- the number of a game, and the error -/
def gameV (n a b : Int) : Int × Int :=
  bif decide (n < 2) then (0, 3) else bif decide (n > 16) then (0, 3) else bif decide (min a b < 0) then (0, 2) else bif decide (max a b ≥ n) then (0, 2) else bif a == b then (0, 2) else (W64 (W64 (W64 (W64 (Int.tdiv (W64 (min a b * W64 (W64 (W64 (2 * n) - min a b) - 1))) 2) + max a b) - min a b) - 1), 0)
abbrev TGm := Tree (TCTs [cI, cI])
def T_game (n a b : Int) : TGm :=
  bif decide (n < 2) then .leaf (0, 3, ()) else bif decide (n > 16) then .leaf (0, 3, ()) else bif decide (min a b < 0) then .leaf (0, 2, ()) else bif decide (max a b ≥ n) then .leaf (0, 2, ()) else bif a == b then .leaf (0, 2, ()) else .leaf (W64 (W64 (W64 (W64 (Int.tdiv (W64 (min a b * W64 (W64 (W64 (2 * n) - min a b) - 1))) 2) + max a b) - min a b) - 1), 0, ())
theorem T_game_ok (n a b : Int) : (T_game n a b).sat (fun y => y = ((gameV n a b).1, (gameV n a b).2, ())) := by
  unfold T_game gameV
  refine sat_cond (fun h => ?_) (fun h => ?_)
  · rw [h]; exact rfl
  rw [h]
  refine sat_cond (fun h => ?_) (fun h => ?_)
  · rw [h]; exact rfl
  rw [h]
  refine sat_cond (fun h => ?_) (fun h => ?_)
  · rw [h]; exact rfl
  rw [h]
  refine sat_cond (fun h => ?_) (fun h => ?_)
  · rw [h]; exact rfl
  rw [h]
  refine sat_cond (fun h => ?_) (fun h => ?_)
  · rw [h]; exact rfl
  rw [h]; exact rfl
abbrev s_Game : PureT := spec [cI, cI, cI] [cI, cI] (fun _ => true) (fun x => ((gameV x.1 x.2.1 x.2.2.1).1, (gameV x.1 x.2.1 x.2.2.1).2, ()))
theorem q_Game : PureOk Try.prog 19 s_Game := q_by (ctx_ok mixed puOk_nil allF_ok) 6 (fun x => T_game x.1 x.2.1 x.2.2.1) (fun x => by kernel_rfl) fun x _ _ => T_game_ok x.1 x.2.1 x.2.2.1
noncomputable def plRd : List (Nat × PureT) := [(19, s_Game), (18, s_Rounds), (15, s_fine)]
theorem puRd : PuOk Try.prog plRd := puOk_cons is_w16.plain q_Game (puOk_cons is_w15.plain q_Rounds (puOk_cons is_w12.plain q_fine puOk_nil))
noncomputable def XRd : Ctx := ctx Try.prog plRd []
noncomputable def lb_rd0 : Code := (loopsOf (bodyOf Try.f6)).getD 0 .skip
noncomputable def lb_rd1 : Code := (loopsOf (bodyOf Try.f6)).getD 1 .skip
def L_rd1 : Lay := { keys := [3, 4, 6, 7, 8, 9, 10], ks := [.d cI, .d (.sl (.sl cPr)), .o 4 .b, .d cI, .d cI, .o 4 .b, .d cI], bs := [], n := 142, nx := 2000, marks := [] }
def R_rd1 : Lay := { keys := [3, 4, 6, 7, 8], ks := [.d cI, .d (.sl (.sl cPr)), .o 4 .b, .d cI, .d cI], bs := [], n := 142, nx := 2000, marks := [] }
def Rt_rd1 : Lay := { keys := [2], ks := [.d .b], bs := [], n := 142, nx := 2000, marks := [] }
def E_rd1 : XE → Lay := fun e => match e with | .ret => Rt_rd1 | _ => R_rd1
abbrev cR1 := L_rd1.T ⊕ Left' E_rd1
def hd_rd1 (many : Int) (l : List (List (TCT cPr))) (seen : List Bool) (games r : Int) (busy : List Bool) (i : Int) : L_rd1.T := ((many, l, seen, games, r, busy, i, ()), ())
def ex_rd1 (many : Int) (l : List (List (TCT cPr))) (seen : List Bool) (games r : Int) : Left' E_rd1 := ⟨.exit 2, ((many, l, seen, games, r, ()), ())⟩
def rt_rd1 (b : Bool) : Left' E_rd1 := ⟨.ret, ((b, ()), ())⟩
def fi_rd1 : Tree cR1 := .leaf (.inr (rt_rd1 false))
def ge_rd1 (many : Int) (l : List (List (TCT cPr))) (seen : List Bool) (games r : Int) (busy : List Bool) (i : Int) (a b : Int) (k : Int × Int) : Tree cR1 :=
  bif k.2 != 0 then fi_rd1 else bif decide (k.1 < 0) then fi_rd1 else bif decide (k.1 ≥ (seen.length : Int)) then fi_rd1 else
  inO seen.length k.1 (bif getA seen (Int.toNat k.1) false then fi_rd1 else inO seen.length k.1 (.leaf (.inl (hd_rd1 many l (setA seen (Int.toNat k.1) true) (W64 (games + 1)) r (setA (setA busy (Int.toNat a) true) (Int.toNat b) true) (W64 (i + 1))))))
def pr_rd1 (many : Int) (l : List (List (TCT cPr))) (seen : List Bool) (games r : Int) (busy : List Bool) (i : Int) (a b : Int) : Tree cR1 :=
  bif decide (a < 0) then fi_rd1 else bif decide (b ≤ a) then fi_rd1 else bif decide (b ≥ many) then fi_rd1 else
  inO busy.length a (bif getA busy (Int.toNat a) false then fi_rd1 else inO busy.length b (bif getA busy (Int.toNat b) false then fi_rd1 else
  inO busy.length a (inO (setA busy (Int.toNat a) true).length b (ge_rd1 many l seen games r busy i a b (gameV many b a)))))
def sm_rd1 (many : Int) (l : List (List (TCT cPr))) (seen : List Bool) (games r : Int) (busy : List Bool) (i : Int) (lr : List (TCT cPr)) : Tree cR1 :=
  inN l.length r (bif decide (i < (lr.length : Int)) then inN l.length r (inN lr.length i (inN l.length r (inN lr.length i
    (pr_rd1 many l seen games r busy i (getA lr (Int.toNat i) (dflt cPr)).1 (getA lr (Int.toNat i) (dflt cPr)).2.1)))) else .leaf (.inr (ex_rd1 many l seen games r)))
def st_rd1 (g : L_rd1.T) : Tree cR1 := sm_rd1 g.1.1 g.1.2.1 g.1.2.2.1 g.1.2.2.2.1 g.1.2.2.2.2.1 g.1.2.2.2.2.2.1 g.1.2.2.2.2.2.2.1 (getA (g.1.2.1 : List (List (TCT cPr))) (Int.toNat g.1.2.2.2.2.1) [])
theorem e_rd1 (g : L_rd1.T) : evC Try.prog (evFn XRd 6) XRd.pures 6 XRd.u (fun _ => none) lb_rd1 (L_rd1.of g) (stepOut L_rd1 E_rd1) = st_rd1 g := by kernel_rfl
/-! the outer loop -/
def L_rd0 : Lay := { keys := [3, 4, 6, 7, 8], ks := [.d cI, .d (.sl (.sl cPr)), .o 4 .b, .d cI, .d cI], bs := [], n := 142, nx := 1000, marks := [] }
def R_rd0 : Lay := { keys := [6, 7], ks := [.o 4 .b, .d cI], bs := [], n := 142, nx := 1000, marks := [] }
def Rt_rd0 : Lay := { keys := [2], ks := [.d .b], bs := [], n := 142, nx := 1000, marks := [] }
def E_rd0 : XE → Lay := fun e => match e with | .ret => Rt_rd0 | _ => R_rd0
abbrev cR0 := L_rd0.T ⊕ Left' E_rd0
def fu_rd1 (g : L_rd1.T) : Nat := (getA (g.1.2.1 : List (List (TCT cPr))) (Int.toNat g.1.2.2.2.2.1) []).length + 1
noncomputable def Lt_rd0 : LoopT := fun k => bif Nat.beq k 12 then some (loopSum L_rd1 E_rd1 (finX [.ret, .exit 2] st_rd1 fu_rd1)) else none
end Ev
end V
end Go.Proofs.Ytgchccljmjmibaa
