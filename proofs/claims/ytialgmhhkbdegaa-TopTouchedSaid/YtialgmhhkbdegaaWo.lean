/- The law TopTouched: for all arguments it returns true. -/
import Derived.Test.YtialgmhhkbdegaaWm
namespace Go.Proofs.Ytialgmhhkbdegaa
open Go.RowKit
namespace V
theorem is_TopTouched : FnIs Try.prog (6, Try.f6) := ⟨Try.func6, by kernel_rfl, by kernel_rfl⟩
theorem is_round : FnIs Try.prog (7, Try.f7) := ⟨Try.func7, by kernel_rfl, by kernel_rfl⟩
def plTo : List (Nat × PureT) := (18, s_Settle) :: plTf
theorem puTo : PuOk Try.prog plTo := puOk_cons is_Settle.plain q_Settle puTf
noncomputable def X_to0 : Ctx := ctx Try.prog plTo [(7, Try.f7)]
theorem X_to0_ok : CtxOk X_to0 := ctx_ok mixed puTo (fns_cons is_round fns_nil)
noncomputable def lb_o (i : Nat) : Code := (loopsOf (bodyOf Try.f6)).getD i .skip
abbrev cDot : TC := .st [.i .u16, .i .u16]
abbrev cP32 : TC := .st [.i .i32, .i .i32]
def L_o0 : Lay := { keys := [0, 1, 7, 8, 9, 10], ks := [.d (.sl cDot), .d (.sl cP32), .p 0 0 0 0, .o 26 cBall, .o 32 cMot, .d cI], bs := [(0, 67, [.d cI, .d cI])], n := 212, nx := 1000, marks := [] }
def R_o0 : Lay := { keys := [7, 8, 9], ks := [.p 0 0 0 0, .o 26 cBall, .o 32 cMot], bs := [(0, 67, [.d cI, .d cI])], n := 212, nx := 2000, marks := [] }
def E_o0 : XE → Lay := fun _ => R_o0
def hd_o0 (l : List (TCT cDot)) (m : List (TCT cP32)) (b : List (TCT cBall)) (s : List (TCT cMot)) (i re dr : Int) : L_o0.T := ((l, m, (), b, s, i, ()), (re, dr, ()), ())
def ex_o0 (b : List (TCT cBall)) (s : List (TCT cMot)) (re dr : Int) : Left' E_o0 := ⟨.exit 0, (((), b, s, ()), (re, dr, ()), ())⟩
abbrev tB : TCT cBall := (450, 2946, ())
def q4 (x : Int) : Int := W64 (Int.tdiv (W64 x) 4)
def q22 (x : Int) : Int := Int.tmod (W64 x) 4194304
def mk0 (d : TCT cDot) (x y : Int) : TCT cMot := ((q4 d.1, q4 d.2.1, ()), (x, y, ()), (0, 0, ()), ())
def ap0 (l : List (TCT cDot)) (m : List (TCT cP32)) (b : List (TCT cBall)) (s : List (TCT cMot)) (i re dr : Int) (x : TCT cMot) : Tree (L_o0.T ⊕ Left' E_o0) :=
  bif appOk b [tB] 16 then bif appOk s [x] 48 then .leaf (.inl (hd_o0 l m (b ++ [tB]) (s ++ [x]) (W64 (i + 1)) re dr)) else .fail else .fail
def st_o0 (l : List (TCT cDot)) (m : List (TCT cP32)) (b : List (TCT cBall)) (s : List (TCT cMot)) (i re dr : Int) : Tree (L_o0.T ⊕ Left' E_o0) :=
  bif decide (i < (l.length : Int)) then bif decide (i < 6) then bif decide (0 ≤ i ∧ i < (l.length : Int)) then bif decide (0 ≤ i ∧ i < (l.length : Int)) then
    bif decide (i < (m.length : Int)) then bif decide (0 ≤ i ∧ i < (m.length : Int)) then bif decide (0 ≤ i ∧ i < (m.length : Int)) then
      ap0 l m b s i re dr (mk0 (getA l i.toNat (dflt cDot)) (q22 (getA m i.toNat (dflt cP32)).1) (q22 (getA m i.toNat (dflt cP32)).2.1)) else .fail else .fail else
      ap0 l m b s i re dr (mk0 (getA l i.toNat (dflt cDot)) 0 0) else .fail else .fail else .leaf (.inr (ex_o0 b s re dr)) else .leaf (.inr (ex_o0 b s re dr))
def stg_o0 (g : L_o0.T) : Tree (L_o0.T ⊕ Left' E_o0) := st_o0 g.1.1 g.1.2.1 g.1.2.2.2.1 g.1.2.2.2.2.1 g.1.2.2.2.2.2.1 g.2.1.1 g.2.1.2.1
def fu_o0 (_ : L_o0.T) : Nat := 7
theorem l_o0 : LoopOk Try.prog 6 (lb_o 0) (loopSum L_o0 E_o0 (finX [.exit 0] stg_o0 fu_o0)) := loopOk_x0 X_to0_ok 7 _ L_o0 E_o0 (fun e => by cases e <;> exact Nat.le_of_ble_eq_true rfl) _ stg_o0 fu_o0 (fun g => by kernel_rfl)
abbrev Ms : Type := List (TCT cMot)
abbrev Ps : Type := List (TCT cPair)
def Q_o : Lay := { keys := [6], ks := [.d .b], bs := [], n := 212, nx := 5000, marks := [] }
def Z_o : Lay := { keys := [], ks := [], bs := [], n := 212, nx := 5000, marks := [] }
def L_o2 : Lay := { keys := [9, 12, 13, 15, 16, 17], ks := [.d (.sl cMot), .d (.sl cMot), .d (.sl cPair), .d cI, .d .b, .d cI], bs := [], n := 212, nx := 4000, marks := [] }
def R_o2 : Lay := { keys := [9, 12, 13, 15, 16], ks := [.d (.sl cMot), .d (.sl cMot), .d (.sl cPair), .d cI, .d .b], bs := [], n := 212, nx := 5000, marks := [] }
def E_o2 : XE → Lay
  | .ret => Q_o
  | _ => R_o2
def L_o1 : Lay := { keys := [9, 12, 13, 15], ks := [.d (.sl cMot), .d (.sl cMot), .d (.sl cPair), .d cI], bs := [], n := 212, nx := 3000, marks := [] }
def R_o1 : Lay := { keys := [9, 13], ks := [.d (.sl cMot), .d (.sl cPair)], bs := [], n := 212, nx := 6000, marks := [] }
def Q_o1 : Lay := { keys := [6], ks := [.d .b], bs := [], n := 212, nx := 6000, marks := [] }
def E_o1 : XE → Lay
  | .ret => Q_o1
  | _ => R_o1
def L_o3 : Lay := { keys := [9, 13, 20], ks := [.d (.sl cMot), .d (.sl cPair), .d cI], bs := [], n := 212, nx := 7000, marks := [] }
def Q_o3 : Lay := { keys := [6], ks := [.d .b], bs := [], n := 212, nx := 8000, marks := [] }
def E_o3 : XE → Lay
  | .ret => Q_o3
  | _ => { keys := [], ks := [], bs := [], n := 212, nx := 8000, marks := [] }
def tcA (s : Ms) (i k : Nat) : Int × Int := TcR (getA s i (dflt cMot)).1.1 (getA s i (dflt cMot)).1.2.1 2946 (getA s k (dflt cMot)).1.1 (getA s k (dflt cMot)).1.2.1 2946
def hd_o2 (s o : Ms) (p : Ps) (i : Int) (ap : Bool) (k : Int) : L_o2.T := ((s, o, p, i, ap, k, ()), ())
def rt_o2 : Left' E_o2 := ⟨.ret, ((false, ()), ())⟩
def ex_o2 (s o : Ms) (p : Ps) (i : Int) (ap : Bool) : Left' E_o2 := ⟨.exit 4, ((s, o, p, i, ap, ()), ())⟩
def st_o2 (s o : Ms) (p : Ps) (i : Int) (ap : Bool) (k : Int) : Tree (L_o2.T ⊕ Left' E_o2) :=
  bif decide (k < (s.length : Int)) then bif decide (0 ≤ i ∧ i < (s.length : Int)) then bif decide (0 ≤ k ∧ k < (s.length : Int)) then
    bif (tcA s i.toNat k.toNat).2 != 0 then .leaf (.inr rt_o2) else
    bif ap then bif k == i then .leaf (.inl (hd_o2 s o p i true (W64 (k + 1)))) else .leaf (.inl (hd_o2 s o p i (decide ((tcA s i.toNat k.toNat).1 > 0)) (W64 (k + 1)))) else .leaf (.inl (hd_o2 s o p i false (W64 (k + 1))))
  else .fail else .fail else .leaf (.inr (ex_o2 s o p i ap))
def stg_o2 (g : L_o2.T) : Tree (L_o2.T ⊕ Left' E_o2) := st_o2 g.1.1 g.1.2.1 g.1.2.2.1 g.1.2.2.2.1 g.1.2.2.2.2.1 g.1.2.2.2.2.2.1
def fu_o2 (g : L_o2.T) : Nat := g.1.1.length + 1
theorem l_o2 : LoopOk Try.prog 6 (lb_o 2) (loopSum L_o2 E_o2 (finX [.exit 4] stg_o2 fu_o2)) := loopOk_x0 X_to0_ok 7 _ L_o2 E_o2 (fun e => by cases e <;> exact Nat.le_of_ble_eq_true rfl) _ stg_o2 fu_o2 (fun g => by kernel_rfl)
def hd_o3 (s : Ms) (p : Ps) (i : Int) : L_o3.T := ((s, p, i, ()), ())
def rt_o3 : Left' E_o3 := ⟨.ret, ((false, ()), ())⟩
def ex_o3 : Left' E_o3 := ⟨.exit 6, ((), ())⟩
def st_o3 (s : Ms) (p : Ps) (i : Int) : Tree (L_o3.T ⊕ Left' E_o3) :=
  bif decide (i < (p.length : Int)) then bif decide (0 ≤ i ∧ i < (p.length : Int)) then bif decide (0 ≤ i ∧ i < (p.length : Int)) then
    bif decide ((getA p i.toNat (dflt cPair)).1 < 0) then .leaf (.inr rt_o3) else bif decide ((getA p i.toNat (dflt cPair)).2.1 ≤ (getA p i.toNat (dflt cPair)).1) then .leaf (.inr rt_o3) else
    bif decide ((getA p i.toNat (dflt cPair)).2.1 ≥ (s.length : Int)) then .leaf (.inr rt_o3) else
    bif decide (0 ≤ (getA p i.toNat (dflt cPair)).1 ∧ (getA p i.toNat (dflt cPair)).1 < (s.length : Int)) then bif decide (0 ≤ (getA p i.toNat (dflt cPair)).2.1 ∧ (getA p i.toNat (dflt cPair)).2.1 < (s.length : Int)) then
      bif (tcA s (getA p i.toNat (dflt cPair)).1.toNat (getA p i.toNat (dflt cPair)).2.1.toNat).2 != 0 then .leaf (.inr rt_o3) else
      bif decide ((tcA s (getA p i.toNat (dflt cPair)).1.toNat (getA p i.toNat (dflt cPair)).2.1.toNat).1 > 0) then .leaf (.inr rt_o3) else .leaf (.inl (hd_o3 s p (W64 (i + 1))))
    else .fail else .fail else .fail else .fail else .leaf (.inr ex_o3)
def stg_o3 (g : L_o3.T) : Tree (L_o3.T ⊕ Left' E_o3) := st_o3 g.1.1 g.1.2.1 g.1.2.2.1
def fu_o3 (g : L_o3.T) : Nat := g.1.2.1.length + 1
theorem l_o3 : LoopOk Try.prog 6 (lb_o 3) (loopSum L_o3 E_o3 (finX [.exit 6] stg_o3 fu_o3)) := loopOk_x0 X_to0_ok 7 _ L_o3 E_o3 (fun e => by cases e <;> exact Nat.le_of_ble_eq_true rfl) _ stg_o3 fu_o3 (fun g => by kernel_rfl)
noncomputable def Lt_o : LoopT := fun k => bif Nat.beq k 22 then some (loopSum L_o2 E_o2 (finX [.exit 4] stg_o2 fu_o2)) else none
def eqM6 (a b : TCT cMot) : Bool := (a.1.1 == b.1.1 && (a.1.2.1 == b.1.2.1 && true)) && ((a.2.1.1 == b.2.1.1 && (a.2.1.2.1 == b.2.1.2.1 && true)) && ((a.2.2.1.1 == b.2.2.1.1 && (a.2.2.1.2.1 == b.2.2.1.2.1 && true)) && true))
def hd_o1 (s o : Ms) (p : Ps) (i : Int) : L_o1.T := ((s, o, p, i, ()), ())
def rt_o1 : Left' E_o1 := ⟨.ret, ((false, ()), ())⟩
def ex_o1 (s : Ms) (p : Ps) : Left' E_o1 := ⟨.exit 2, ((s, p, ()), ())⟩
def y_o2 (s o : Ms) (p : Ps) (i : Int) : Option (Left' E_o2) := iter stg_o2 (fu_o2 (hd_o2 s o p i true 0)) (hd_o2 s o p i true 0)
def aft_o1 (s o : Ms) (p : Ps) (i : Int) (ap : Bool) : Tree (L_o1.T ⊕ Left' E_o1) :=
  bif ap then bif decide (0 ≤ i ∧ i < (o.length : Int)) then bif decide (0 ≤ i ∧ i < (s.length : Int)) then
    bif !eqM6 (getA o i.toNat (dflt cMot)) (getA s i.toNat (dflt cMot)) then .leaf (.inr rt_o1) else .leaf (.inl (hd_o1 s o p (W64 (i + 1)))) else .fail else .fail else .leaf (.inl (hd_o1 s o p (W64 (i + 1))))
def afg_o1 (y : Option (Left' E_o2)) : Tree (L_o1.T ⊕ Left' E_o1) := aft_o1 (valE (.exit 4) y).1.1 (valE (.exit 4) y).1.2.1 (valE (.exit 4) y).1.2.2.1 (valE (.exit 4) y).1.2.2.2.1 (valE (.exit 4) y).1.2.2.2.2.1
def st_o1 (s o : Ms) (p : Ps) (i : Int) : Tree (L_o1.T ⊕ Left' E_o1) :=
  bif decide (i < (s.length : Int)) then bif isE (.exit 4) (y_o2 s o p i) then afg_o1 (y_o2 s o p i) else .fail else .leaf (.inr (ex_o1 s p))
def stg_o1 (g : L_o1.T) : Tree (L_o1.T ⊕ Left' E_o1) := st_o1 g.1.1 g.1.2.1 g.1.2.2.1 g.1.2.2.2.1
def fu_o1 (g : L_o1.T) : Nat := g.1.1.length + 1
theorem l_o1 : LoopOk Try.prog 6 (lb_o 1) (loopSum L_o1 E_o1 (finX [.exit 2] stg_o1 fu_o1)) := loopOk_x X_to0_ok 7 _ Lt_o (by
  intro d hd f hf
  have hl : loopsOf (lb_o 1) = [lb_o 2] := by kernel_rfl
  rw [hl, List.mem_singleton] at hd
  subst hd
  have hk : keyOf (lb_o 2) = 22 := by kernel_rfl
  rw [hk] at hf
  have h2 : some (loopSum L_o2 E_o2 (finX [.exit 4] stg_o2 fu_o2)) = some f := hf
  cases h2
  exact l_o2) L_o1 E_o1 (fun e => by cases e <;> exact Nat.le_of_ble_eq_true rfl) _ stg_o1 fu_o1 (fun g => by kernel_rfl)
noncomputable def X_topTouched : Ctx := ctxL Try.prog plTo [(6, Try.f6), (7, Try.f7)] [((6, 5), loopSum L_o0 E_o0 (finX [.exit 0] stg_o0 fu_o0)), ((6, 18), loopSum L_o1 E_o1 (finX [.exit 2] stg_o1 fu_o1)), ((6, 31), loopSum L_o3 E_o3 (finX [.exit 6] stg_o3 fu_o3))]
theorem X_topTouched_ok : CtxOk X_topTouched := ctxL_ok mixed puTo (fns_cons is_TopTouched (fns_cons is_round fns_nil)) (by
  intro p hp d hd g hg
  simp only [List.mem_cons, List.not_mem_nil, or_false] at hp
  rcases hp with rfl | rfl
  · have hl : loopsOf (bodyOf Try.f6) = [lb_o 0, lb_o 1, lb_o 2, lb_o 3] := by kernel_rfl
    simp only at hd hg
    rw [hl] at hd
    simp only [List.mem_cons, List.not_mem_nil, or_false] at hd
    rcases hd with rfl | rfl | rfl | rfl
    · have hk : keyOf (lb_o 0) = 5 := by kernel_rfl
      rw [hk] at hg
      have h2 : some (loopSum L_o0 E_o0 (finX [.exit 0] stg_o0 fu_o0)) = some g := hg
      cases h2
      exact l_o0
    · have hk : keyOf (lb_o 1) = 18 := by kernel_rfl
      rw [hk] at hg
      have h2 : some (loopSum L_o1 E_o1 (finX [.exit 2] stg_o1 fu_o1)) = some g := hg
      cases h2
      exact l_o1
    · have hk : keyOf (lb_o 2) = 22 := by kernel_rfl
      rw [hk] at hg
      exact nomatch (show (none : Option (St → Tree (XE × St))) = some g from hg)
    · have hk : keyOf (lb_o 3) = 31 := by kernel_rfl
      rw [hk] at hg
      have h2 : some (loopSum L_o3 E_o3 (finX [.exit 6] stg_o3 fu_o3)) = some g := hg
      cases h2
      exact l_o3
  · exact nomatch (show (none : Option (St → Tree (XE × St))) = some g from hg))
abbrev cs_topTouched : List TC := [.sl cDot, .sl cP32, .i .u16]
def y_o0 (l : List (TCT cDot)) (m : List (TCT cP32)) (re : Int) : Option (Left' E_o0) := iter stg_o0 7 (hd_o0 l m [] [] 0 re 0)
def y_o1 (s o : Ms) (p : Ps) : Option (Left' E_o1) := iter stg_o1 (fu_o1 (hd_o1 s o p 0)) (hd_o1 s o p 0)
def y_o3 (s : Ms) (p : Ps) : Option (Left' E_o3) := iter stg_o3 (fu_o3 (hd_o3 s p 0)) (hd_o3 s p 0)
def T_o3 (s : Ms) (p : Ps) : Tree Unit := bif isE (.exit 6) (y_o3 s p) then .leaf () else .fail
def T_o1 (s o : Ms) (p : Ps) : Tree Unit := bif isE (.exit 2) (y_o1 s o p) then T_o3 (valE (.exit 2) (y_o1 s o p)).1.1 (valE (.exit 2) (y_o1 s o p)).1.2.1 else .fail
def T_oS (b : List (TCT cBall)) (s : Ms) (re dr : Int) : Tree Unit := bif (SettleR b s re dr).2.2.1 != 0 then bif (SettleR b s re dr).2.2.1 == 4 then bif ((SettleR b s re dr).1.length : Int) == 0 then .leaf () else .fail else .fail else
  bif ((SettleR b s re dr).1.length : Int) != (s.length : Int) then .fail else T_o1 s (SettleR b s re dr).1 (SettleR b s re dr).2.1
def TY_o (y : Option (Left' E_o0)) : Tree Unit := bif isE (.exit 0) y then T_oS (valE (.exit 0) y).1.2.1 (valE (.exit 0) y).1.2.2.1 (valE (.exit 0) y).2.1.1 (valE (.exit 0) y).2.1.2.1 else .fail
def TY_topTouched (x : TCTs cs_topTouched) : Tree Unit := TY_o (y_o0 x.1 x.2.1 (Int.tmod (W64 x.2.2.1) 951))
theorem TY_topTouched_eq (x : TCTs cs_topTouched) : evFn X_topTouched 12 (.fn 6) (encAs cs_topTouched x) noHeap 0 lawK = TY_topTouched x := by kernel_rfl
end V
end Go.Proofs.Ytialgmhhkbdegaa
