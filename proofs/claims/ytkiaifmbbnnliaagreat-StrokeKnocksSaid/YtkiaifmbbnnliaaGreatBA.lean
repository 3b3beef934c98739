import Derived.Test.YtkiaifmbbnnliaaGreatSd
import Derived.Test.YtkiaifmbbnnliaaGreatTV
import Derived.Test.YtkiaifmbbnnliaaGreatUj
import Derived.Test.YtkiaifmbbnnliaaGreatBa
import Derived.Test.YtkiaifmbbnnliaaGreatZd
import Derived.Test.YtkiaifmbbnnliaaGreatZe
namespace Go.Proofs.YtkiaifmbbnnliaaGreat
open Go.RowKit
namespace V
abbrev s_Towards : PureT := spec [cPt, cPt, cI] [cPt, cI] (fun _ => true) (fun x => (((TwR x.1.1 x.1.2.1 x.2.1.1 x.2.1.2.1 x.2.2.1).1.1, (TwR x.1.1 x.1.2.1 x.2.1.1 x.2.1.2.1 x.2.2.1).1.2, ()), (TwR x.1.1 x.1.2.1 x.2.1.1 x.2.1.2.1 x.2.2.1).2, ()))
theorem q_Towards : PureOk Tryz.prog 56 s_Towards := qv_Towards
end V
end Go.Proofs.YtkiaifmbbnnliaaGreat
namespace Go.Proofs.YtkiaifmbbnnliaaGreat
open Go.RowKit
namespace V
namespace St
abbrev cHoop : TC := .st [cI, cI, cI, cI, .b]
abbrev cCell : TC := .st [cI, cI, cI]
abbrev cLawn : TC := .st [.s, cI, cI, cI, .sl cHoop, cDisc, cI, cI, .sl cCell]
abbrev cGr : TC := .st [cLawn, .sl cBall, cBnc]
abbrev cSt : TC := .st [.sl cMot, .sl .b, cI, cI, cI]
abbrev cBl : TC := .st [cI, cPt, cI, cI]
abbrev cKn : TC := .st [cI, cI, cI, cI, cI]
theorem is_between2 : FnIs Tryz.prog (132, Tryz.f132) := ⟨Tryz.func132, by kernel_rfl, by kernel_rfl⟩
theorem is_within2 : FnIs Tryz.prog (89, Tryz.f89) := ⟨Tryz.func89, by kernel_rfl, by kernel_rfl⟩
theorem is_validHoop : FnIs Tryz.prog (135, Tryz.f135) := ⟨Tryz.func135, by kernel_rfl, by kernel_rfl⟩
theorem is_rhoop : FnIs Tryz.prog (90, Tryz.f90) := ⟨Tryz.func90, by kernel_rfl, by kernel_rfl⟩
theorem is_validCell : FnIs Tryz.prog (138, Tryz.f138) := ⟨Tryz.func138, by kernel_rfl, by kernel_rfl⟩
theorem is_rcell2 : FnIs Tryz.prog (91, Tryz.f91) := ⟨Tryz.func91, by kernel_rfl, by kernel_rfl⟩
theorem is_Check1 : FnIs Tryz.prog (134, Tryz.f134) := ⟨Tryz.func134, by kernel_rfl, by kernel_rfl⟩
theorem is_Check2 : FnIs Tryz.prog (137, Tryz.f137) := ⟨Tryz.func137, by kernel_rfl, by kernel_rfl⟩
theorem is_CG1 : FnIs Tryz.prog (77, Tryz.f77) := ⟨Tryz.func77, by kernel_rfl, by kernel_rfl⟩
theorem is_still1 : FnIs Tryz.prog (104, Tryz.f104) := ⟨Tryz.func104, by kernel_rfl, by kernel_rfl⟩
theorem is_Runs1 : FnIs Tryz.prog (95, Tryz.f95) := ⟨Tryz.func95, by kernel_rfl, by kernel_rfl⟩
theorem is_tChk : FnIs Tryz.prog (50, Tryz.f50) := ⟨Tryz.func50, by kernel_rfl, by kernel_rfl⟩
def inR (x lo hi : Int) : Bool := decide (lo ≤ x) && decide (x ≤ hi)
abbrev s_inR : PureT := spec [cI, cI, cI] [.b] (fun _ => true) (fun x => (inR x.1 x.2.1 x.2.2.1, ()))
abbrev TBo := Tree (TCTs [.b])
def andT (a : Bool) (t : TBo) : TBo := bif a then t else .leaf (false, ())
theorem andT_ok {a b : Bool} {t : TBo} (h : t.sat (fun y => y = (b, ()))) : (andT a t).sat (fun y => y = (a && b, ())) := by
  unfold andT
  cases a with
  | true => rw [Bool.true_and]; exact h
  | false => exact rfl
theorem leafB (b : Bool) : (Tree.leaf (b, ()) : TBo).sat (fun y => y = (b, ())) := rfl
theorem q_between2 : PureOk Tryz.prog 132 s_inR := q_by (ctx_ok mixed puOk_nil (fns_cons is_between2 fns_nil)) 3 (fun x => andT (decide (x.2.1 ≤ x.1)) (.leaf (decide (x.1 ≤ x.2.2.1), ()))) (fun x => by kernel_rfl) fun _ _ _ => andT_ok (leafB _)
theorem q_within2 : PureOk Tryz.prog 89 s_inR := q_by (ctx_ok mixed puOk_nil (fns_cons is_within2 fns_nil)) 3 (fun x => andT (decide (x.2.1 ≤ x.1)) (.leaf (decide (x.1 ≤ x.2.2.1), ()))) (fun x => by kernel_rfl) fun _ _ _ => andT_ok (leafB _)
def plBt : List (Nat × PureT) := [(132, s_inR), (89, s_inR)]
theorem puBt : PuOk Tryz.prog plBt := puOk_cons is_between2.plain q_between2 (puOk_cons is_within2.plain q_within2 puOk_nil)
def hoopB (h : TCT cHoop) : Bool := inR h.1 0 4194304 && (inR h.2.1 0 4194304 && (inR h.2.2.1 2 32768 && ((Int.tmod h.2.2.1 2 == 0) && inR h.2.2.2.1 1 8192)))
def cellB (c : TCT cCell) : Bool := inR c.1 0 65536 && (inR c.2.1 (-4096) 4096 && inR c.2.2.1 (-4096) 4096)
abbrev s_hoopB : PureT := spec [cHoop] [.b] (fun _ => true) (fun x => (hoopB x.1, ()))
abbrev s_cellB : PureT := spec [cCell] [.b] (fun _ => true) (fun x => (cellB x.1, ()))
def T_hoopB (h : TCT cHoop) : TBo := andT (inR h.1 0 4194304) (andT (inR h.2.1 0 4194304) (andT (inR h.2.2.1 2 32768) (andT (Int.tmod h.2.2.1 2 == 0) (.leaf (inR h.2.2.2.1 1 8192, ())))))
def T_cellB (c : TCT cCell) : TBo := andT (inR c.1 0 65536) (andT (inR c.2.1 (-4096) 4096) (.leaf (inR c.2.2.1 (-4096) 4096, ())))
theorem T_hoopB_ok (h : TCT cHoop) : (T_hoopB h).sat (fun y => y = (hoopB h, ())) := andT_ok (andT_ok (andT_ok (andT_ok (leafB _))))
theorem T_cellB_ok (c : TCT cCell) : (T_cellB c).sat (fun y => y = (cellB c, ())) := andT_ok (andT_ok (leafB _))
theorem q_validHoop : PureOk Tryz.prog 135 s_hoopB := q_by (ctx_ok mixed puBt (fns_cons is_validHoop fns_nil)) 3 (fun x => T_hoopB x.1) (fun x => by kernel_rfl) fun x _ _ => T_hoopB_ok x.1
theorem q_rhoop : PureOk Tryz.prog 90 s_hoopB := q_by (ctx_ok mixed puBt (fns_cons is_rhoop fns_nil)) 3 (fun x => T_hoopB x.1) (fun x => by kernel_rfl) fun x _ _ => T_hoopB_ok x.1
theorem q_validCell : PureOk Tryz.prog 138 s_cellB := q_by (ctx_ok mixed puBt (fns_cons is_validCell fns_nil)) 3 (fun x => T_cellB x.1) (fun x => by kernel_rfl) fun x _ _ => T_cellB_ok x.1
theorem q_rcell2 : PureOk Tryz.prog 91 s_cellB := q_by (ctx_ok mixed puBt (fns_cons is_rcell2 fns_nil)) 3 (fun x => T_cellB x.1) (fun x => by kernel_rfl) fun x _ _ => T_cellB_ok x.1
def restB (m : TCT cMot) : Bool := m.2.1.1 == 0 && m.2.1.2.1 == 0
def ballOk (b : TCT cBall) : Bool := ballB b.1 b.2.1
abbrev s_C1 : PureT := spec [cHoop] [.b] (fun _ => true) (fun x => (!hoopB x.1, ()))
abbrev s_C2 : PureT := spec [cCell] [.b] (fun _ => true) (fun x => (!cellB x.1, ()))
abbrev s_CG1 : PureT := spec [cBall] [.b] (fun _ => true) (fun x => (!ballOk x.1, ()))
abbrev s_st1 : PureT := spec [cMot] [.b] (fun _ => true) (fun x => (!restB x.1, ()))
abbrev s_Ru1 : PureT := spec [cPt] [.b] (fun _ => true) (fun x => (!fpt x.1.1 x.1.2.1, ()))
theorem q_C1 : PureOk Tryz.prog 134 s_C1 := q_by (ctx_ok mixed (puOk_cons is_validHoop.plain q_validHoop puOk_nil) (fns_cons is_Check1 fns_nil)) 3 (fun x => .leaf (!hoopB x.1, ())) (fun x => by kernel_rfl) fun _ _ _ => rfl
theorem q_C2 : PureOk Tryz.prog 137 s_C2 := q_by (ctx_ok mixed (puOk_cons is_validCell.plain q_validCell puOk_nil) (fns_cons is_Check2 fns_nil)) 3 (fun x => .leaf (!cellB x.1, ())) (fun x => by kernel_rfl) fun _ _ _ => rfl
theorem okE_ne (b : Bool) : (okE b != 0) = !b := by unfold okE; cases b <;> rfl
theorem q_CG1 : PureOk Tryz.prog 77 s_CG1 := q_by (ctx_ok mixed (puOk_cons is_CheckBall.plain q_CheckBall puOk_nil) (fns_cons is_CG1 fns_nil)) 3 (fun x => .leaf (okE (ballB x.1.1 x.1.2.1) != 0, ())) (fun x => by kernel_rfl) fun x _ _ => by
  show (okE (ballB x.1.1 x.1.2.1) != 0, ()) = (!ballOk x.1, ())
  rw [okE_ne]; rfl
theorem q_st1 : PureOk Tryz.prog 104 s_st1 := q_by (ctx_ok mixed puOk_nil (fns_cons is_still1 fns_nil)) 3 (fun x => .leaf (!(x.1.2.1.1 == 0 && (x.1.2.1.2.1 == 0 && true)), ())) (fun x => by kernel_rfl) fun x _ _ => by
  show (!(x.1.2.1.1 == 0 && (x.1.2.1.2.1 == 0 && true)), ()) = (!restB x.1, ())
  rw [Bool.and_true]; rfl
theorem q_Ru1 : PureOk Tryz.prog 95 s_Ru1 := q_by (ctx_ok mixed (puOk_cons is_tChk.plain q_Check puOk_nil) (fns_cons is_Runs1 fns_nil)) 3 (fun x => .leaf (u_ck x.1.1 x.1.2.1 != 0, ())) (fun x => by kernel_rfl) fun x _ _ => by
  show (u_ck x.1.1 x.1.2.1 != 0, ()) = (!fpt x.1.1 x.1.2.1, ())
  unfold u_ck
  cases fpt x.1.1 x.1.2.1 <;> rfl
def plCl : List (Nat × PureT) := [(134, s_C1), (137, s_C2), (77, s_CG1), (104, s_st1), (95, s_Ru1)]
theorem puCl : PuOk Tryz.prog plCl := puOk_cons is_Check1.plain q_C1 (puOk_cons is_Check2.plain q_C2 (puOk_cons is_CG1.plain q_CG1 (puOk_cons is_still1.plain q_st1 (puOk_cons is_Runs1.plain q_Ru1 puOk_nil))))
theorem is_ixHoop : FnIs Tryz.prog (172, Tryz.f172) := ⟨Tryz.func172, by kernel_rfl, by kernel_rfl⟩
theorem is_cfHoop : FnIs Tryz.prog (133, Tryz.f133) := ⟨Tryz.func133, by kernel_rfl, by kernel_rfl⟩
abbrev ck_Hoop : List SK := []
def p_Hoop (k : SKTs ck_Hoop) (x : TCT (cHoop)) : Bool := !hoopB x
noncomputable def lb_ixHoop : Code := (loopsOf (bodyOf Tryz.f172)).getD 0 .skip
def L_ixHoop : Lay := { keys := [0, 1, 7, 8], ks := [.d (.sl (cHoop)), .f 134 [] ck_Hoop, .d cI, .d cI], bs := [], n := 19, nx := 1000, marks := [] }
def Rr_ixHoop : Lay := { keys := [4], ks := [.d cI], bs := [], n := 19, nx := 1000, marks := [] }
def Re_ixHoop : Lay := { keys := [], ks := [], bs := [], n := 19, nx := 1000, marks := [] }
def E_ixHoop : XE → Lay
  | .ret => Rr_ixHoop
  | _ => Re_ixHoop
def hd_ixHoop (k : SKTs ck_Hoop) (l : List (TCT (cHoop))) (n i : Int) : L_ixHoop.T := ((l, ((), k), n, i, ()), ())
def r_ixHoop (i : Int) : Left' E_ixHoop := ⟨.ret, ((i, ()), ())⟩
def e_ixHoop : Left' E_ixHoop := ⟨.exit 0, ((), ())⟩
def body_ixHoop (k : SKTs ck_Hoop) (l : List (TCT (cHoop))) (n : Int) (x : TCT (cHoop)) (i : Int) : Tree (L_ixHoop.T ⊕ Left' E_ixHoop) := bif p_Hoop k x then .leaf (.inr (r_ixHoop i)) else .leaf (.inl (hd_ixHoop k l n (W64 (i + 1))))
def st_ixHoop (k : SKTs ck_Hoop) (l : List (TCT (cHoop))) (n i : Int) : Tree (L_ixHoop.T ⊕ Left' E_ixHoop) :=
  bif decide (i < n) then bif decide (0 ≤ i ∧ i < (l.length : Int)) then body_ixHoop k l n (getA l i.toNat (dflt (cHoop))) i else .fail else .leaf (.inr e_ixHoop)
def fin_ixHoop (g : L_ixHoop.T) : Tree (Left' E_ixHoop) :=
  .br (atHead g.1.2.2.1 g.1.2.2.2.1 g.1.1) (.br (g.1.1.any (p_Hoop g.1.2.1.2)) (.leaf (r_ixHoop (g.1.1.findIdx (p_Hoop g.1.2.1.2)))) (.leaf e_ixHoop)) .fail
theorem l_ixHoop : LoopOk Tryz.prog 172 lb_ixHoop (loopSum L_ixHoop E_ixHoop fin_ixHoop) := by
  refine loopOk_of (X := ctx Tryz.prog plCl []) (ctx_ok mixed puCl fns_nil) 7 172 (fun _ => none) (fun _ _ f h => by simp at h) L_ixHoop E_ixHoop (fun e => by cases e <;> exact Nat.le_refl _) fin_ixHoop (fun g => st_ixHoop g.1.2.1.2 g.1.1 g.1.2.2.1 g.1.2.2.2.1) (fun g => by kernel_rfl) ?_
  rintro ⟨⟨l, ⟨⟨⟩, k⟩, n, i, ⟨⟩⟩, ⟨⟩⟩ R hw hf
  obtain ⟨hf, h0⟩ := hf
  by_cases hc : n = (l.length : Int) ∧ i = 0
  · obtain ⟨rfl, rfl⟩ := hc
    have hf := hf (decide_eq_true ⟨rfl, rfl⟩)
    refine forL l (dflt (cHoop)) (wfl_len hw.1.1) (fun n i _ => hd_ixHoop k l n i) (fun x i (_ : Unit) => bif p_Hoop k x then .inr (r_ixHoop i) else .inl ()) (fun _ => e_ixHoop) (fun _ => True) (fun x i _ => body_ixHoop k l l.length x i) (fun i _ => rfl) ?_ () trivial ?_
    · intro i _ hi Q _ _ hw1 hQ
      show (body_ixHoop k l l.length l[i] i).sat Q
      unfold body_ixHoop
      rw [hw1]
      cases hp : p_Hoop k l[i] with
      | true => rw [hp] at hQ; exact hQ
      | false => rw [hp] at hQ; exact hQ trivial
    · rw [run_any (p_Hoop k) (fun i => r_ixHoop i) e_ixHoop l 0, Nat.zero_add]
      cases ha : l.any (p_Hoop k) with
      | true => exact hf.1 ha
      | false => exact hf.2 ha
  · exact (h0 (decide_eq_false hc)).elim
abbrev s_ixHoop : PureT := kspec [.d (.sl (cHoop)), .f 134 [] ck_Hoop] [cI] (fun _ => true) (fun x => (bif x.1.any (p_Hoop x.2.1.2) then (x.1.findIdx (p_Hoop x.2.1.2) : Int) else -1, ()))
noncomputable def X_ixHoop : Ctx := ctxL Tryz.prog plCl [(172, Tryz.f172)] [((172, keyOf lb_ixHoop), loopSum L_ixHoop E_ixHoop fin_ixHoop)]
theorem X_ixHoop_ok : CtxOk X_ixHoop := ctxL_ok mixed puCl (fns_cons is_ixHoop fns_nil) (loops_one rfl (by kernel_rfl) l_ixHoop)
def T_ixHoop (k : SKTs ck_Hoop) (l : List (TCT (cHoop))) : Tree (Int × Unit) := bif atHead (l.length : Int) 0 l then bif l.any (p_Hoop k) then .leaf ((l.findIdx (p_Hoop k) : Int), ()) else .leaf (-1, ()) else .fail
theorem T_ixHoop_ok (k : SKTs ck_Hoop) (l : List (TCT (cHoop))) : (T_ixHoop k l).sat (fun y => y = (bif l.any (p_Hoop k) then (l.findIdx (p_Hoop k) : Int) else -1, ())) := by
  refine sat_must (decide_eq_true ⟨rfl, rfl⟩) ?_
  cases l.any (p_Hoop k) <;> exact rfl
theorem q_ixHoop : PureOk Tryz.prog 172 s_ixHoop := kq_by X_ixHoop_ok 8 (fun x => T_ixHoop x.2.1.2 x.1) (fun x => by kernel_rfl) fun x _ _ => T_ixHoop_ok _ _
abbrev s_cfHoop : PureT := kspec [.d (.sl (cHoop)), .f 134 [] ck_Hoop] [.b] (fun _ => true) (fun x => (x.1.any (p_Hoop x.2.1.2), ()))
theorem any_idxHoop (k : SKTs ck_Hoop) (l : List (TCT (cHoop))) : (Tree.leaf (decide ((bif l.any (p_Hoop k) then (l.findIdx (p_Hoop k) : Int) else -1) ≥ 0), ()) : Tree (Bool × Unit)).sat (fun y => y = (l.any (p_Hoop k), ())) := by
  rw [any_idx]; exact rfl
theorem q_cfHoop : PureOk Tryz.prog 133 s_cfHoop := kq_by (ctx_ok mixed (puOk_cons is_ixHoop.plain q_ixHoop puOk_nil) (fns_cons is_cfHoop fns_nil)) 8 (fun x => .leaf (decide ((bif x.1.any (p_Hoop x.2.1.2) then (x.1.findIdx (p_Hoop x.2.1.2) : Int) else -1) ≥ 0), ())) (fun x => by kernel_rfl) fun x _ _ => any_idxHoop _ _
theorem is_ixCell : FnIs Tryz.prog (173, Tryz.f173) := ⟨Tryz.func173, by kernel_rfl, by kernel_rfl⟩
theorem is_cfCell : FnIs Tryz.prog (136, Tryz.f136) := ⟨Tryz.func136, by kernel_rfl, by kernel_rfl⟩
abbrev ck_Cell : List SK := []
def p_Cell (k : SKTs ck_Cell) (x : TCT (cCell)) : Bool := !cellB x
noncomputable def lb_ixCell : Code := (loopsOf (bodyOf Tryz.f173)).getD 0 .skip
def L_ixCell : Lay := { keys := [0, 1, 7, 8], ks := [.d (.sl (cCell)), .f 137 [] ck_Cell, .d cI, .d cI], bs := [], n := 19, nx := 1000, marks := [] }
def Rr_ixCell : Lay := { keys := [4], ks := [.d cI], bs := [], n := 19, nx := 1000, marks := [] }
def Re_ixCell : Lay := { keys := [], ks := [], bs := [], n := 19, nx := 1000, marks := [] }
def E_ixCell : XE → Lay
  | .ret => Rr_ixCell
  | _ => Re_ixCell
def hd_ixCell (k : SKTs ck_Cell) (l : List (TCT (cCell))) (n i : Int) : L_ixCell.T := ((l, ((), k), n, i, ()), ())
def r_ixCell (i : Int) : Left' E_ixCell := ⟨.ret, ((i, ()), ())⟩
def e_ixCell : Left' E_ixCell := ⟨.exit 0, ((), ())⟩
def body_ixCell (k : SKTs ck_Cell) (l : List (TCT (cCell))) (n : Int) (x : TCT (cCell)) (i : Int) : Tree (L_ixCell.T ⊕ Left' E_ixCell) := bif p_Cell k x then .leaf (.inr (r_ixCell i)) else .leaf (.inl (hd_ixCell k l n (W64 (i + 1))))
def st_ixCell (k : SKTs ck_Cell) (l : List (TCT (cCell))) (n i : Int) : Tree (L_ixCell.T ⊕ Left' E_ixCell) :=
  bif decide (i < n) then bif decide (0 ≤ i ∧ i < (l.length : Int)) then body_ixCell k l n (getA l i.toNat (dflt (cCell))) i else .fail else .leaf (.inr e_ixCell)
def fin_ixCell (g : L_ixCell.T) : Tree (Left' E_ixCell) :=
  .br (atHead g.1.2.2.1 g.1.2.2.2.1 g.1.1) (.br (g.1.1.any (p_Cell g.1.2.1.2)) (.leaf (r_ixCell (g.1.1.findIdx (p_Cell g.1.2.1.2)))) (.leaf e_ixCell)) .fail
theorem l_ixCell : LoopOk Tryz.prog 173 lb_ixCell (loopSum L_ixCell E_ixCell fin_ixCell) := by
  refine loopOk_of (X := ctx Tryz.prog plCl []) (ctx_ok mixed puCl fns_nil) 7 173 (fun _ => none) (fun _ _ f h => by simp at h) L_ixCell E_ixCell (fun e => by cases e <;> exact Nat.le_refl _) fin_ixCell (fun g => st_ixCell g.1.2.1.2 g.1.1 g.1.2.2.1 g.1.2.2.2.1) (fun g => by kernel_rfl) ?_
  rintro ⟨⟨l, ⟨⟨⟩, k⟩, n, i, ⟨⟩⟩, ⟨⟩⟩ R hw hf
  obtain ⟨hf, h0⟩ := hf
  by_cases hc : n = (l.length : Int) ∧ i = 0
  · obtain ⟨rfl, rfl⟩ := hc
    have hf := hf (decide_eq_true ⟨rfl, rfl⟩)
    refine forL l (dflt (cCell)) (wfl_len hw.1.1) (fun n i _ => hd_ixCell k l n i) (fun x i (_ : Unit) => bif p_Cell k x then .inr (r_ixCell i) else .inl ()) (fun _ => e_ixCell) (fun _ => True) (fun x i _ => body_ixCell k l l.length x i) (fun i _ => rfl) ?_ () trivial ?_
    · intro i _ hi Q _ _ hw1 hQ
      show (body_ixCell k l l.length l[i] i).sat Q
      unfold body_ixCell
      rw [hw1]
      cases hp : p_Cell k l[i] with
      | true => rw [hp] at hQ; exact hQ
      | false => rw [hp] at hQ; exact hQ trivial
    · rw [run_any (p_Cell k) (fun i => r_ixCell i) e_ixCell l 0, Nat.zero_add]
      cases ha : l.any (p_Cell k) with
      | true => exact hf.1 ha
      | false => exact hf.2 ha
  · exact (h0 (decide_eq_false hc)).elim
abbrev s_ixCell : PureT := kspec [.d (.sl (cCell)), .f 137 [] ck_Cell] [cI] (fun _ => true) (fun x => (bif x.1.any (p_Cell x.2.1.2) then (x.1.findIdx (p_Cell x.2.1.2) : Int) else -1, ()))
noncomputable def X_ixCell : Ctx := ctxL Tryz.prog plCl [(173, Tryz.f173)] [((173, keyOf lb_ixCell), loopSum L_ixCell E_ixCell fin_ixCell)]
theorem X_ixCell_ok : CtxOk X_ixCell := ctxL_ok mixed puCl (fns_cons is_ixCell fns_nil) (loops_one rfl (by kernel_rfl) l_ixCell)
def T_ixCell (k : SKTs ck_Cell) (l : List (TCT (cCell))) : Tree (Int × Unit) := bif atHead (l.length : Int) 0 l then bif l.any (p_Cell k) then .leaf ((l.findIdx (p_Cell k) : Int), ()) else .leaf (-1, ()) else .fail
theorem T_ixCell_ok (k : SKTs ck_Cell) (l : List (TCT (cCell))) : (T_ixCell k l).sat (fun y => y = (bif l.any (p_Cell k) then (l.findIdx (p_Cell k) : Int) else -1, ())) := by
  refine sat_must (decide_eq_true ⟨rfl, rfl⟩) ?_
  cases l.any (p_Cell k) <;> exact rfl
theorem q_ixCell : PureOk Tryz.prog 173 s_ixCell := kq_by X_ixCell_ok 8 (fun x => T_ixCell x.2.1.2 x.1) (fun x => by kernel_rfl) fun x _ _ => T_ixCell_ok _ _
abbrev s_cfCell : PureT := kspec [.d (.sl (cCell)), .f 137 [] ck_Cell] [.b] (fun _ => true) (fun x => (x.1.any (p_Cell x.2.1.2), ()))
theorem any_idxCell (k : SKTs ck_Cell) (l : List (TCT (cCell))) : (Tree.leaf (decide ((bif l.any (p_Cell k) then (l.findIdx (p_Cell k) : Int) else -1) ≥ 0), ()) : Tree (Bool × Unit)).sat (fun y => y = (l.any (p_Cell k), ())) := by
  rw [any_idx]; exact rfl
theorem q_cfCell : PureOk Tryz.prog 136 s_cfCell := kq_by (ctx_ok mixed (puOk_cons is_ixCell.plain q_ixCell puOk_nil) (fns_cons is_cfCell fns_nil)) 8 (fun x => .leaf (decide ((bif x.1.any (p_Cell x.2.1.2) then (x.1.findIdx (p_Cell x.2.1.2) : Int) else -1) ≥ 0), ())) (fun x => by kernel_rfl) fun x _ _ => any_idxCell _ _
theorem is_ixBall : FnIs Tryz.prog (141, Tryz.f141) := ⟨Tryz.func141, by kernel_rfl, by kernel_rfl⟩
theorem is_cfBall : FnIs Tryz.prog (76, Tryz.f76) := ⟨Tryz.func76, by kernel_rfl, by kernel_rfl⟩
abbrev ck_Ball : List SK := []
def p_Ball (k : SKTs ck_Ball) (x : TCT (cBall)) : Bool := !ballOk x
noncomputable def lb_ixBall : Code := (loopsOf (bodyOf Tryz.f141)).getD 0 .skip
def L_ixBall : Lay := { keys := [0, 1, 7, 8], ks := [.d (.sl (cBall)), .f 77 [] ck_Ball, .d cI, .d cI], bs := [], n := 19, nx := 1000, marks := [] }
def Rr_ixBall : Lay := { keys := [4], ks := [.d cI], bs := [], n := 19, nx := 1000, marks := [] }
def Re_ixBall : Lay := { keys := [], ks := [], bs := [], n := 19, nx := 1000, marks := [] }
def E_ixBall : XE → Lay
  | .ret => Rr_ixBall
  | _ => Re_ixBall
def hd_ixBall (k : SKTs ck_Ball) (l : List (TCT (cBall))) (n i : Int) : L_ixBall.T := ((l, ((), k), n, i, ()), ())
def r_ixBall (i : Int) : Left' E_ixBall := ⟨.ret, ((i, ()), ())⟩
def e_ixBall : Left' E_ixBall := ⟨.exit 0, ((), ())⟩
def body_ixBall (k : SKTs ck_Ball) (l : List (TCT (cBall))) (n : Int) (x : TCT (cBall)) (i : Int) : Tree (L_ixBall.T ⊕ Left' E_ixBall) := bif p_Ball k x then .leaf (.inr (r_ixBall i)) else .leaf (.inl (hd_ixBall k l n (W64 (i + 1))))
def st_ixBall (k : SKTs ck_Ball) (l : List (TCT (cBall))) (n i : Int) : Tree (L_ixBall.T ⊕ Left' E_ixBall) :=
  bif decide (i < n) then bif decide (0 ≤ i ∧ i < (l.length : Int)) then body_ixBall k l n (getA l i.toNat (dflt (cBall))) i else .fail else .leaf (.inr e_ixBall)
def fin_ixBall (g : L_ixBall.T) : Tree (Left' E_ixBall) :=
  .br (atHead g.1.2.2.1 g.1.2.2.2.1 g.1.1) (.br (g.1.1.any (p_Ball g.1.2.1.2)) (.leaf (r_ixBall (g.1.1.findIdx (p_Ball g.1.2.1.2)))) (.leaf e_ixBall)) .fail
theorem l_ixBall : LoopOk Tryz.prog 141 lb_ixBall (loopSum L_ixBall E_ixBall fin_ixBall) := by
  refine loopOk_of (X := ctx Tryz.prog plCl []) (ctx_ok mixed puCl fns_nil) 7 141 (fun _ => none) (fun _ _ f h => by simp at h) L_ixBall E_ixBall (fun e => by cases e <;> exact Nat.le_refl _) fin_ixBall (fun g => st_ixBall g.1.2.1.2 g.1.1 g.1.2.2.1 g.1.2.2.2.1) (fun g => by kernel_rfl) ?_
  rintro ⟨⟨l, ⟨⟨⟩, k⟩, n, i, ⟨⟩⟩, ⟨⟩⟩ R hw hf
  obtain ⟨hf, h0⟩ := hf
  by_cases hc : n = (l.length : Int) ∧ i = 0
  · obtain ⟨rfl, rfl⟩ := hc
    have hf := hf (decide_eq_true ⟨rfl, rfl⟩)
    refine forL l (dflt (cBall)) (wfl_len hw.1.1) (fun n i _ => hd_ixBall k l n i) (fun x i (_ : Unit) => bif p_Ball k x then .inr (r_ixBall i) else .inl ()) (fun _ => e_ixBall) (fun _ => True) (fun x i _ => body_ixBall k l l.length x i) (fun i _ => rfl) ?_ () trivial ?_
    · intro i _ hi Q _ _ hw1 hQ
      show (body_ixBall k l l.length l[i] i).sat Q
      unfold body_ixBall
      rw [hw1]
      cases hp : p_Ball k l[i] with
      | true => rw [hp] at hQ; exact hQ
      | false => rw [hp] at hQ; exact hQ trivial
    · rw [run_any (p_Ball k) (fun i => r_ixBall i) e_ixBall l 0, Nat.zero_add]
      cases ha : l.any (p_Ball k) with
      | true => exact hf.1 ha
      | false => exact hf.2 ha
  · exact (h0 (decide_eq_false hc)).elim
abbrev s_ixBall : PureT := kspec [.d (.sl (cBall)), .f 77 [] ck_Ball] [cI] (fun _ => true) (fun x => (bif x.1.any (p_Ball x.2.1.2) then (x.1.findIdx (p_Ball x.2.1.2) : Int) else -1, ()))
noncomputable def X_ixBall : Ctx := ctxL Tryz.prog plCl [(141, Tryz.f141)] [((141, keyOf lb_ixBall), loopSum L_ixBall E_ixBall fin_ixBall)]
theorem X_ixBall_ok : CtxOk X_ixBall := ctxL_ok mixed puCl (fns_cons is_ixBall fns_nil) (loops_one rfl (by kernel_rfl) l_ixBall)
def T_ixBall (k : SKTs ck_Ball) (l : List (TCT (cBall))) : Tree (Int × Unit) := bif atHead (l.length : Int) 0 l then bif l.any (p_Ball k) then .leaf ((l.findIdx (p_Ball k) : Int), ()) else .leaf (-1, ()) else .fail
theorem T_ixBall_ok (k : SKTs ck_Ball) (l : List (TCT (cBall))) : (T_ixBall k l).sat (fun y => y = (bif l.any (p_Ball k) then (l.findIdx (p_Ball k) : Int) else -1, ())) := by
  refine sat_must (decide_eq_true ⟨rfl, rfl⟩) ?_
  cases l.any (p_Ball k) <;> exact rfl
theorem q_ixBall : PureOk Tryz.prog 141 s_ixBall := kq_by X_ixBall_ok 8 (fun x => T_ixBall x.2.1.2 x.1) (fun x => by kernel_rfl) fun x _ _ => T_ixBall_ok _ _
abbrev s_cfBall : PureT := kspec [.d (.sl (cBall)), .f 77 [] ck_Ball] [.b] (fun _ => true) (fun x => (x.1.any (p_Ball x.2.1.2), ()))
theorem any_idxBall (k : SKTs ck_Ball) (l : List (TCT (cBall))) : (Tree.leaf (decide ((bif l.any (p_Ball k) then (l.findIdx (p_Ball k) : Int) else -1) ≥ 0), ()) : Tree (Bool × Unit)).sat (fun y => y = (l.any (p_Ball k), ())) := by
  rw [any_idx]; exact rfl
theorem q_cfBall : PureOk Tryz.prog 76 s_cfBall := kq_by (ctx_ok mixed (puOk_cons is_ixBall.plain q_ixBall puOk_nil) (fns_cons is_cfBall fns_nil)) 8 (fun x => .leaf (decide ((bif x.1.any (p_Ball x.2.1.2) then (x.1.findIdx (p_Ball x.2.1.2) : Int) else -1) ≥ 0), ())) (fun x => by kernel_rfl) fun x _ _ => any_idxBall _ _
theorem is_ixMot : FnIs Tryz.prog (149, Tryz.f149) := ⟨Tryz.func149, by kernel_rfl, by kernel_rfl⟩
theorem is_cfMot : FnIs Tryz.prog (103, Tryz.f103) := ⟨Tryz.func103, by kernel_rfl, by kernel_rfl⟩
abbrev ck_Mot : List SK := []
def p_Mot (k : SKTs ck_Mot) (x : TCT (cMot)) : Bool := !restB x
noncomputable def lb_ixMot : Code := (loopsOf (bodyOf Tryz.f149)).getD 0 .skip
def L_ixMot : Lay := { keys := [0, 1, 7, 8], ks := [.d (.sl (cMot)), .f 104 [] ck_Mot, .d cI, .d cI], bs := [], n := 19, nx := 1000, marks := [] }
def Rr_ixMot : Lay := { keys := [4], ks := [.d cI], bs := [], n := 19, nx := 1000, marks := [] }
def Re_ixMot : Lay := { keys := [], ks := [], bs := [], n := 19, nx := 1000, marks := [] }
def E_ixMot : XE → Lay
  | .ret => Rr_ixMot
  | _ => Re_ixMot
def hd_ixMot (k : SKTs ck_Mot) (l : List (TCT (cMot))) (n i : Int) : L_ixMot.T := ((l, ((), k), n, i, ()), ())
def r_ixMot (i : Int) : Left' E_ixMot := ⟨.ret, ((i, ()), ())⟩
def e_ixMot : Left' E_ixMot := ⟨.exit 0, ((), ())⟩
def body_ixMot (k : SKTs ck_Mot) (l : List (TCT (cMot))) (n : Int) (x : TCT (cMot)) (i : Int) : Tree (L_ixMot.T ⊕ Left' E_ixMot) := bif p_Mot k x then .leaf (.inr (r_ixMot i)) else .leaf (.inl (hd_ixMot k l n (W64 (i + 1))))
def st_ixMot (k : SKTs ck_Mot) (l : List (TCT (cMot))) (n i : Int) : Tree (L_ixMot.T ⊕ Left' E_ixMot) :=
  bif decide (i < n) then bif decide (0 ≤ i ∧ i < (l.length : Int)) then body_ixMot k l n (getA l i.toNat (dflt (cMot))) i else .fail else .leaf (.inr e_ixMot)
def fin_ixMot (g : L_ixMot.T) : Tree (Left' E_ixMot) :=
  .br (atHead g.1.2.2.1 g.1.2.2.2.1 g.1.1) (.br (g.1.1.any (p_Mot g.1.2.1.2)) (.leaf (r_ixMot (g.1.1.findIdx (p_Mot g.1.2.1.2)))) (.leaf e_ixMot)) .fail
theorem l_ixMot : LoopOk Tryz.prog 149 lb_ixMot (loopSum L_ixMot E_ixMot fin_ixMot) := by
  refine loopOk_of (X := ctx Tryz.prog plCl []) (ctx_ok mixed puCl fns_nil) 7 149 (fun _ => none) (fun _ _ f h => by simp at h) L_ixMot E_ixMot (fun e => by cases e <;> exact Nat.le_refl _) fin_ixMot (fun g => st_ixMot g.1.2.1.2 g.1.1 g.1.2.2.1 g.1.2.2.2.1) (fun g => by kernel_rfl) ?_
  rintro ⟨⟨l, ⟨⟨⟩, k⟩, n, i, ⟨⟩⟩, ⟨⟩⟩ R hw hf
  obtain ⟨hf, h0⟩ := hf
  by_cases hc : n = (l.length : Int) ∧ i = 0
  · obtain ⟨rfl, rfl⟩ := hc
    have hf := hf (decide_eq_true ⟨rfl, rfl⟩)
    refine forL l (dflt (cMot)) (wfl_len hw.1.1) (fun n i _ => hd_ixMot k l n i) (fun x i (_ : Unit) => bif p_Mot k x then .inr (r_ixMot i) else .inl ()) (fun _ => e_ixMot) (fun _ => True) (fun x i _ => body_ixMot k l l.length x i) (fun i _ => rfl) ?_ () trivial ?_
    · intro i _ hi Q _ _ hw1 hQ
      show (body_ixMot k l l.length l[i] i).sat Q
      unfold body_ixMot
      rw [hw1]
      cases hp : p_Mot k l[i] with
      | true => rw [hp] at hQ; exact hQ
      | false => rw [hp] at hQ; exact hQ trivial
    · rw [run_any (p_Mot k) (fun i => r_ixMot i) e_ixMot l 0, Nat.zero_add]
      cases ha : l.any (p_Mot k) with
      | true => exact hf.1 ha
      | false => exact hf.2 ha
  · exact (h0 (decide_eq_false hc)).elim
abbrev s_ixMot : PureT := kspec [.d (.sl (cMot)), .f 104 [] ck_Mot] [cI] (fun _ => true) (fun x => (bif x.1.any (p_Mot x.2.1.2) then (x.1.findIdx (p_Mot x.2.1.2) : Int) else -1, ()))
noncomputable def X_ixMot : Ctx := ctxL Tryz.prog plCl [(149, Tryz.f149)] [((149, keyOf lb_ixMot), loopSum L_ixMot E_ixMot fin_ixMot)]
theorem X_ixMot_ok : CtxOk X_ixMot := ctxL_ok mixed puCl (fns_cons is_ixMot fns_nil) (loops_one rfl (by kernel_rfl) l_ixMot)
def T_ixMot (k : SKTs ck_Mot) (l : List (TCT (cMot))) : Tree (Int × Unit) := bif atHead (l.length : Int) 0 l then bif l.any (p_Mot k) then .leaf ((l.findIdx (p_Mot k) : Int), ()) else .leaf (-1, ()) else .fail
theorem T_ixMot_ok (k : SKTs ck_Mot) (l : List (TCT (cMot))) : (T_ixMot k l).sat (fun y => y = (bif l.any (p_Mot k) then (l.findIdx (p_Mot k) : Int) else -1, ())) := by
  refine sat_must (decide_eq_true ⟨rfl, rfl⟩) ?_
  cases l.any (p_Mot k) <;> exact rfl
theorem q_ixMot : PureOk Tryz.prog 149 s_ixMot := kq_by X_ixMot_ok 8 (fun x => T_ixMot x.2.1.2 x.1) (fun x => by kernel_rfl) fun x _ _ => T_ixMot_ok _ _
abbrev s_cfMot : PureT := kspec [.d (.sl (cMot)), .f 104 [] ck_Mot] [.b] (fun _ => true) (fun x => (x.1.any (p_Mot x.2.1.2), ()))
theorem any_idxMot (k : SKTs ck_Mot) (l : List (TCT (cMot))) : (Tree.leaf (decide ((bif l.any (p_Mot k) then (l.findIdx (p_Mot k) : Int) else -1) ≥ 0), ()) : Tree (Bool × Unit)).sat (fun y => y = (l.any (p_Mot k), ())) := by
  rw [any_idx]; exact rfl
theorem q_cfMot : PureOk Tryz.prog 103 s_cfMot := kq_by (ctx_ok mixed (puOk_cons is_ixMot.plain q_ixMot puOk_nil) (fns_cons is_cfMot fns_nil)) 8 (fun x => .leaf (decide ((bif x.1.any (p_Mot x.2.1.2) then (x.1.findIdx (p_Mot x.2.1.2) : Int) else -1) ≥ 0), ())) (fun x => by kernel_rfl) fun x _ _ => any_idxMot _ _
end St
end V
end Go.Proofs.YtkiaifmbbnnliaaGreat
namespace Go.Proofs.YtkiaifmbbnnliaaGreat
open Go.RowKit
namespace V
namespace St
theorem is_lposts : FnIs Tryz.prog (140, Tryz.f140) := ⟨Tryz.func140, by kernel_rfl, by kernel_rfl⟩
theorem is_lwires : FnIs Tryz.prog (175, Tryz.f175) := ⟨Tryz.func175, by kernel_rfl, by kernel_rfl⟩
theorem is_turned : FnIs Tryz.prog (195, Tryz.f195) := ⟨Tryz.func195, by kernel_rfl, by kernel_rfl⟩
theorem is_rposts : FnIs Tryz.prog (92, Tryz.f92) := ⟨Tryz.func92, by kernel_rfl, by kernel_rfl⟩
abbrev kLw : List SK := [.d .s, .d cI, .d cI, .d cI, .d (.sl cHoop), .d cI, .d cI, .d cI, .d cI, .d cI, .d (.sl cCell)]
def lwOf (x : SKTs kLw) : TCT cLawn := (x.1, x.2.1, x.2.2.1, x.2.2.2.1, x.2.2.2.2.1, ((x.2.2.2.2.2.1, x.2.2.2.2.2.2.1, ()), x.2.2.2.2.2.2.2.1, ()), x.2.2.2.2.2.2.2.2.1, x.2.2.2.2.2.2.2.2.2.1, x.2.2.2.2.2.2.2.2.2.2.1, ())
def lwTo (l : TCT cLawn) : SKTs kLw := (l.1, l.2.1, l.2.2.1, l.2.2.2.1, l.2.2.2.2.1, l.2.2.2.2.2.1.1.1, l.2.2.2.2.2.1.1.2.1, l.2.2.2.2.2.1.2.1, l.2.2.2.2.2.2.1, l.2.2.2.2.2.2.2.1, l.2.2.2.2.2.2.2.2.1, ())
def hoopsL (l : TCT cLawn) : List (TCT cHoop) := l.2.2.2.2.1
def pegL (l : TCT cLawn) : TCT cDisc := l.2.2.2.2.2.1
def dW (h : TCT cHoop) : Int := W64 (W64 (Int.tdiv h.2.2.1 2) + h.2.2.2.1)
def disc (x y r : Int) : TCT cDisc := ((x, y, ()), r, ())
def w2 (h : TCT cHoop) : List (TCT cDisc) := bif h.2.2.2.2.1 then [disc h.1 (W64 (h.2.1 - dW h)) h.2.2.2.1, disc h.1 (W64 (h.2.1 + dW h)) h.2.2.2.1] else [disc (W64 (h.1 - dW h)) h.2.1 h.2.2.2.1, disc (W64 (h.1 + dW h)) h.2.1 h.2.2.2.1]
def postsF (l : TCT cLawn) : List (TCT cDisc) := (hoopsL l).flatMap w2 ++ [pegL l]
noncomputable def lb_po : Code := (loopsOf (bodyOf Tryz.f140)).getD 0 .skip
def L_po : Lay := { keys := [1, 2, 7, 8, 9], ks := [.p 0 0 0 0, .o 26 cDisc, .d (.sl cHoop), .d cI, .d cI], bs := [(0, 29, kLw)], n := 24, nx := 1000, marks := [] }
def R_po : Lay := { keys := [1, 2], ks := [.p 0 0 0 0, .o 26 cDisc], bs := [(0, 29, kLw)], n := 24, nx := 1000, marks := [] }
def E_po : XE → Lay := fun _ => R_po
def hd_po (x : SKTs kLw) (hs : List (TCT cHoop)) (n : Int) (i : Int) (o : List (TCT cDisc)) : L_po.T := (((), o, hs, n, i, ()), (x, ()))
def ex_po (x : SKTs kLw) (o : List (TCT cDisc)) : Left' E_po := ⟨.exit 0, (((), o, ()), (x, ()))⟩
def add_po (x : SKTs kLw) (hs : List (TCT cHoop)) (n i : Int) (o w : List (TCT cDisc)) : Tree (L_po.T ⊕ Left' E_po) := bif appOk o w 24 then .leaf (.inl (hd_po x hs n (W64 (i + 1)) (o ++ w))) else .fail
def body_po (x : SKTs kLw) (hs : List (TCT cHoop)) (n i : Int) (o : List (TCT cDisc)) (h : TCT cHoop) : Tree (L_po.T ⊕ Left' E_po) :=
  bif h.2.2.2.2.1 then add_po x hs n i o [disc (W64 (h.1 - 0)) (W64 (h.2.1 - dW h)) h.2.2.2.1, disc (W64 (h.1 + 0)) (W64 (h.2.1 + dW h)) h.2.2.2.1]
  else add_po x hs n i o [disc (W64 (h.1 - dW h)) (W64 (h.2.1 - 0)) h.2.2.2.1, disc (W64 (h.1 + dW h)) (W64 (h.2.1 + 0)) h.2.2.2.1]
def st_po (g : L_po.T) : Tree (L_po.T ⊕ Left' E_po) :=
  bif decide (g.1.2.2.2.2.1 < g.1.2.2.2.1) then bif decide (0 ≤ g.1.2.2.2.2.1 ∧ g.1.2.2.2.2.1 < ((g.1.2.2.1 : List (TCT cHoop)).length : Int)) then body_po g.2.1 g.1.2.2.1 g.1.2.2.2.1 g.1.2.2.2.2.1 g.1.2.1 (getA g.1.2.2.1 (Int.toNat g.1.2.2.2.2.1) (dflt cHoop)) else .fail else .leaf (.inr (ex_po g.2.1 g.1.2.1))
def fu_po (g : L_po.T) : Nat := (g.1.2.2.1 : List (TCT cHoop)).length + 1
noncomputable def X_po0 : Ctx := ctx Tryz.prog [] [(175, Tryz.f175), (195, Tryz.f195)]
theorem X_po0_ok : CtxOk X_po0 := ctx_ok mixed puOk_nil (fns_cons is_lwires (fns_cons is_turned fns_nil))
theorem l_po : LoopOk Tryz.prog 140 lb_po (loopSum L_po E_po (finX [.exit 0] st_po fu_po)) := loopOk_x0 X_po0_ok 7 _ L_po E_po (fun _ => Nat.le_refl _) [.exit 0] st_po fu_po (fun g => by kernel_rfl)
noncomputable def X_po : Ctx := ctxL Tryz.prog [] [(140, Tryz.f140)] [((140, 2), loopSum L_po E_po (finX [.exit 0] st_po fu_po))]
theorem X_po_ok : CtxOk X_po := ctxL_ok mixed puOk_nil (fns_cons is_lposts fns_nil) (loops_one (by kernel_rfl) (by kernel_rfl) l_po)
def y_po (l : TCT cLawn) : Option (Left' E_po) := iter st_po ((hoopsL l).length + 1) (hd_po (lwTo l) (hoopsL l) (hoopsL l).length 0 [])
abbrev TPo := Tree (TCTs [.sl cDisc])
def fin_po (r : R_po.T) : TPo := bif appOk r.1.2.1 [pegL (lwOf r.2.1)] 24 then .leaf (r.1.2.1 ++ [pegL (lwOf r.2.1)], ()) else .fail
def T_po (l : TCT cLawn) : TPo := bif isE (.exit 0) (y_po l) then fin_po (valE (.exit 0) (y_po l)) else .fail
abbrev s_posts : PureT := spec [cLawn] [.sl cDisc] (fun x => decide ((hoopsL x.1).length ≤ 1000)) (fun x => (postsF x.1, ()))
theorem runO_flat {α β E : Type} (w : α → List β) (ex : List β → E) : ∀ (l : List α) (i : Nat) (s : List β), runO (fun _ x s => some (.inl (s ++ w x))) (fun s => some (ex s)) i l s = some (ex (s ++ l.flatMap w))
  | [], _, s => by simp [runO]
  | x :: l, i, s => by simp only [runO]; rw [runO_flat w ex l (i + 1)]; simp [List.append_assoc]
theorem w2_len (h : TCT cHoop) : (w2 h).length = 2 := by unfold w2; cases h.2.2.2.2.1 <;> rfl
theorem flat_len (l : List (TCT cHoop)) : (l.flatMap w2).length = 2 * l.length := by
  induction l with
  | nil => rfl
  | cons h l ih =>
    have e : ((h :: l).flatMap w2).length = (w2 h).length + (l.flatMap w2).length := by rw [List.flatMap_cons, List.length_append]
    rw [e, ih, w2_len, List.length_cons]; omega
theorem app24 {o w : List (TCT cDisc)} (h : o.length + w.length ≤ 4000) : appOk o w 24 = true := by
  rw [appOk_eq]; exact decide_eq_true (by omega)
theorem hoop_w {h : TCT cHoop} (hw : WFD cHoop h) : W64 (h.1 - 0) = h.1 ∧ W64 (h.1 + 0) = h.1 ∧ W64 (h.2.1 - 0) = h.2.1 ∧ W64 (h.2.1 + 0) = h.2.1 := by
  obtain ⟨x, y, g, w, a, ⟨⟩⟩ := h
  obtain ⟨h1, h2, _⟩ := hw
  have h1 : -9223372036854775808 ≤ x ∧ x ≤ 9223372036854775807 := h1
  have h2 : -9223372036854775808 ≤ y ∧ y ≤ 9223372036854775807 := h2
  exact ⟨by rw [Int.sub_zero]; exact W64_id h1.1 h1.2, by rw [Int.add_zero]; exact W64_id h1.1 h1.2, by rw [Int.sub_zero]; exact W64_id h2.1 h2.2, by rw [Int.add_zero]; exact W64_id h2.1 h2.2⟩
theorem y_po_eq {l : TCT cLawn} (hw : ∀ h ∈ hoopsL l, WFD cHoop h) (hl : (hoopsL l).length ≤ 1000) : y_po l = some (ex_po (lwTo l) ((hoopsL l).flatMap w2)) := by
  unfold y_po
  have key := iter_list (st := st_po) (hoopsL l) (fun i o => hd_po (lwTo l) (hoopsL l) (hoopsL l).length (i : Int) o) (fun _ h o => some (.inl (o ++ w2 h))) (fun o => some (ex_po (lwTo l) o)) (fun i o => o.length = 2 * i)
    (fun i o hi hI => by
      simp only
      refine ⟨?_, by rw [List.length_append, hI, w2_len]; omega⟩
      show (bif decide ((i : Int) < ((hoopsL l).length : Int)) then bif decide (0 ≤ (i : Int) ∧ (i : Int) < ((hoopsL l).length : Int)) then body_po (lwTo l) (hoopsL l) (hoopsL l).length (i : Int) o (getA (hoopsL l) (Int.toNat (i : Int)) (dflt cHoop)) else .fail else .leaf (.inr (ex_po (lwTo l) o))).run = _
      rw [decide_eq_true (show (i : Int) < ((hoopsL l).length : Int) by omega), decide_eq_true (show 0 ≤ (i : Int) ∧ (i : Int) < ((hoopsL l).length : Int) by omega), show Int.toNat (i : Int) = i by omega, getA_lt hi]
      obtain ⟨e1, e2, e3, e4⟩ := hoop_w (hw _ (List.getElem_mem hi))
      simp only [cond_true]
      unfold body_po w2 add_po
      rw [e1, e2, e3, e4, W64_id (n := (i : Int) + 1) (by omega) (by omega)]
      cases (hoopsL l)[i].2.2.2.2.1 with
      | true =>
        simp only [cond_true]
        rw [app24 (by simp only [List.length_cons, List.length_nil, hI]; omega)]
        rfl
      | false =>
        simp only [cond_false]
        rw [app24 (by simp only [List.length_cons, List.length_nil, hI]; omega)]
        rfl)
    (fun o e hI he => by
      cases he
      show (bif decide (((hoopsL l).length : Int) < ((hoopsL l).length : Int)) then _ else Tree.leaf (Sum.inr (ex_po (lwTo l) o)) : Tree (L_po.T ⊕ Left' E_po)).run = _
      rw [decide_eq_false (show ¬ ((hoopsL l).length : Int) < ((hoopsL l).length : Int) by omega)]
      rfl)
    (hoopsL l).length 0 [] (ex_po (lwTo l) ((hoopsL l).flatMap w2)) ((hoopsL l).length + 1) (by omega) (by omega) rfl (by rw [List.drop_zero, runO_flat, List.nil_append])
  exact key
theorem q_posts : PureOk Tryz.prog 140 s_posts := q_by X_po_ok 7 (fun x => T_po x.1) (fun x => by kernel_rfl) fun x hok hw => by
  have hl : (hoopsL x.1).length ≤ 1000 := of_decide_eq_true hok
  show (T_po x.1).sat _
  unfold T_po
  rw [y_po_eq (wfl_mem hw.1.2.2.2.2.1) hl]
  show (fin_po (((), (hoopsL x.1).flatMap w2, ()), (lwTo x.1, ()))).sat _
  unfold fin_po
  simp only
  rw [app24 (by rw [flat_len]; simp only [List.length_cons, List.length_nil]; omega)]
  exact rfl
end St
end V
end Go.Proofs.YtkiaifmbbnnliaaGreat
namespace Go.Proofs.YtkiaifmbbnnliaaGreat
open Go.RowKit
namespace V
namespace St
noncomputable def lb_rp : Code := (loopsOf (bodyOf Tryz.f92)).getD 0 .skip
def L_rp : Lay := { keys := [1, 3, 4], ks := [.p 0 0 0 0, .o 26 cDisc, .d cI], bs := [(0, 29, kLw)], n := 73, nx := 1000, marks := [] }
def R_rp : Lay := { keys := [1, 3], ks := [.p 0 0 0 0, .o 26 cDisc], bs := [(0, 29, kLw)], n := 73, nx := 1000, marks := [] }
def E_rp : XE → Lay := fun _ => R_rp
def hd_rp (x : SKTs kLw) (i : Int) (o : List (TCT cDisc)) : L_rp.T := (((), o, i, ()), (x, ()))
def ex_rp (x : SKTs kLw) (o : List (TCT cDisc)) : Left' E_rp := ⟨.exit 0, (((), o, ()), (x, ()))⟩
def add_rp (x : SKTs kLw) (i : Int) (o w : List (TCT cDisc)) : Tree (L_rp.T ⊕ Left' E_rp) := bif appOk o w 24 then .leaf (.inl (hd_rp x (W64 (i + 1)) (o ++ w))) else .fail
def body_rp (x : SKTs kLw) (i : Int) (o : List (TCT cDisc)) (h : TCT cHoop) : Tree (L_rp.T ⊕ Left' E_rp) :=
  bif h.2.2.2.2.1 then add_rp x i o [disc h.1 (W64 (h.2.1 - dW h)) h.2.2.2.1, disc h.1 (W64 (h.2.1 + dW h)) h.2.2.2.1]
  else add_rp x i o [disc (W64 (h.1 - dW h)) h.2.1 h.2.2.2.1, disc (W64 (h.1 + dW h)) h.2.1 h.2.2.2.1]
def st_rp (g : L_rp.T) : Tree (L_rp.T ⊕ Left' E_rp) :=
  bif decide (g.1.2.2.1 < ((g.2.1.2.2.2.2.1 : List (TCT cHoop)).length : Int)) then bif decide (0 ≤ g.1.2.2.1 ∧ g.1.2.2.1 < ((g.2.1.2.2.2.2.1 : List (TCT cHoop)).length : Int)) then body_rp g.2.1 g.1.2.2.1 g.1.2.1 (getA g.2.1.2.2.2.2.1 (Int.toNat g.1.2.2.1) (dflt cHoop)) else .fail else .leaf (.inr (ex_rp g.2.1 g.1.2.1))
def fu_rp (g : L_rp.T) : Nat := (g.2.1.2.2.2.2.1 : List (TCT cHoop)).length + 1
noncomputable def X_rp0 : Ctx := ctx Tryz.prog [] []
theorem X_rp0_ok : CtxOk X_rp0 := ctx_ok mixed puOk_nil fns_nil
theorem l_rp : LoopOk Tryz.prog 92 lb_rp (loopSum L_rp E_rp (finX [.exit 0] st_rp fu_rp)) := loopOk_x0 X_rp0_ok 7 _ L_rp E_rp (fun _ => Nat.le_refl _) [.exit 0] st_rp fu_rp (fun g => by kernel_rfl)
noncomputable def X_rp : Ctx := ctxL Tryz.prog [] [(92, Tryz.f92)] [((92, 3), loopSum L_rp E_rp (finX [.exit 0] st_rp fu_rp))]
theorem X_rp_ok : CtxOk X_rp := ctxL_ok mixed puOk_nil (fns_cons is_rposts fns_nil) (loops_one (by kernel_rfl) (by kernel_rfl) l_rp)
def y_rp (l : TCT cLawn) : Option (Left' E_rp) := iter st_rp ((hoopsL l).length + 1) (hd_rp (lwTo l) 0 [])
def fin_rp (r : R_rp.T) : TPo := bif appOk r.1.2.1 [pegL (lwOf r.2.1)] 24 then .leaf (r.1.2.1 ++ [pegL (lwOf r.2.1)], ()) else .fail
def T_rp (l : TCT cLawn) : TPo := bif isE (.exit 0) (y_rp l) then fin_rp (valE (.exit 0) (y_rp l)) else .fail
theorem y_rp_eq {l : TCT cLawn} (hl : (hoopsL l).length ≤ 1000) : y_rp l = some (ex_rp (lwTo l) ((hoopsL l).flatMap w2)) := by
  unfold y_rp
  have key := iter_list (st := st_rp) (hoopsL l) (fun i o => hd_rp (lwTo l) (i : Int) o) (fun _ h o => some (.inl (o ++ w2 h))) (fun o => some (ex_rp (lwTo l) o)) (fun i o => o.length = 2 * i)
    (fun i o hi hI => by
      simp only
      refine ⟨?_, by rw [List.length_append, hI, w2_len]; omega⟩
      show (bif decide ((i : Int) < ((hoopsL l).length : Int)) then bif decide (0 ≤ (i : Int) ∧ (i : Int) < ((hoopsL l).length : Int)) then body_rp (lwTo l) (i : Int) o (getA (hoopsL l) (Int.toNat (i : Int)) (dflt cHoop)) else .fail else .leaf (.inr (ex_rp (lwTo l) o))).run = _
      rw [decide_eq_true (show (i : Int) < ((hoopsL l).length : Int) by omega), decide_eq_true (show 0 ≤ (i : Int) ∧ (i : Int) < ((hoopsL l).length : Int) by omega), show Int.toNat (i : Int) = i by omega, getA_lt hi]
      simp only [cond_true]
      unfold body_rp w2 add_rp
      rw [W64_id (n := (i : Int) + 1) (by omega) (by omega)]
      cases (hoopsL l)[i].2.2.2.2.1 with
      | true =>
        simp only [cond_true]
        rw [app24 (by simp only [List.length_cons, List.length_nil, hI]; omega)]
        rfl
      | false =>
        simp only [cond_false]
        rw [app24 (by simp only [List.length_cons, List.length_nil, hI]; omega)]
        rfl)
    (fun o e hI he => by
      cases he
      show (bif decide (((hoopsL l).length : Int) < ((hoopsL l).length : Int)) then _ else Tree.leaf (Sum.inr (ex_rp (lwTo l) o)) : Tree (L_rp.T ⊕ Left' E_rp)).run = _
      rw [decide_eq_false (show ¬ ((hoopsL l).length : Int) < ((hoopsL l).length : Int) by omega)]
      rfl)
    (hoopsL l).length 0 [] (ex_rp (lwTo l) ((hoopsL l).flatMap w2)) ((hoopsL l).length + 1) (by omega) (by omega) rfl (by rw [List.drop_zero, runO_flat, List.nil_append])
  exact key
theorem q_rposts : PureOk Tryz.prog 92 s_posts := q_by X_rp_ok 7 (fun x => T_rp x.1) (fun x => by kernel_rfl) fun x hok hw => by
  have hl : (hoopsL x.1).length ≤ 1000 := of_decide_eq_true hok
  show (T_rp x.1).sat _
  unfold T_rp
  rw [y_rp_eq hl]
  show (fin_rp (((), (hoopsL x.1).flatMap w2, ()), (lwTo x.1, ()))).sat _
  unfold fin_rp
  simp only
  rw [app24 (by rw [flat_len]; simp only [List.length_cons, List.length_nil]; omega)]
  exact rfl
end St
end V
end Go.Proofs.YtkiaifmbbnnliaaGreat
namespace Go.Proofs.YtkiaifmbbnnliaaGreat
open Go.RowKit
namespace V
namespace St
theorem is_vname : FnIs Tryz.prog (131, Tryz.f131) := ⟨Tryz.func131, by kernel_rfl, by kernel_rfl⟩
theorem is_vname1 : FnIs Tryz.prog (171, Tryz.f171) := ⟨Tryz.func171, by kernel_rfl, by kernel_rfl⟩
theorem is_sCont : FnIs Tryz.prog (170, Tryz.f170) := ⟨Tryz.func170, by kernel_rfl, by kernel_rfl⟩
theorem is_sIdx : FnIs Tryz.prog (193, Tryz.f193) := ⟨Tryz.func193, by kernel_rfl, by kernel_rfl⟩
theorem is_sidx : FnIs Tryz.prog (203, Tryz.f203) := ⟨Tryz.func203, by kernel_rfl, by kernel_rfl⟩
def badR (r : Int) : Bool := (decide (r < 97) || decide (r > 122)) && (decide (r < 48) || decide (r > 57))
def T_bad (r : Int) : TBo := bif decide (r < 97) then bif decide (r < 48) then .leaf (true, ()) else .leaf (decide (r > 57), ()) else bif decide (r > 122) then bif decide (r < 48) then .leaf (true, ()) else .leaf (decide (r > 57), ()) else .leaf (false, ())
abbrev s_badR : PureT := spec [.i .i32] [.b] (fun _ => true) (fun x => (badR x.1, ()))
theorem T_bad_ok (r : Int) : (T_bad r).sat (fun y => y = (badR r, ())) := by
  unfold T_bad badR
  cases decide (r < 97) <;> cases decide (r > 122) <;> cases decide (r < 48) <;> exact rfl
theorem q_vname1 : PureOk Tryz.prog 171 s_badR := q_by (ctx_ok mixed puOk_nil (fns_cons is_vname1 fns_nil)) 3 (fun x => T_bad x.1) (fun x => by kernel_rfl) fun x _ _ => T_bad_ok x.1
def plNm : List (Nat × PureT) := [(171, s_badR)]
theorem puNm : PuOk Tryz.prog plNm := puOk_cons is_vname1.plain q_vname1 puOk_nil
def nmT (t : ByteArray) : Nat → Nat → TBo
  | 0, _ => .fail
  | n + 1, pos => bif Nat.ble (pos + 1) t.size then
      bif inKB .i64 (pos : Int) && inKB .i32 ((Utf8.decode t pos).1 : Int) then
        bif badR ((Utf8.decode t pos).1 : Int) == true then .leaf (!decide ((pos : Int) ≥ 0), ()) else nmT t n (pos + (Utf8.decode t pos).2)
      else .fail
    else .leaf (!decide ((-1 : Int) ≥ 0), ())
def T_name (t : ByteArray) : TBo := bif inKB .i64 (t.size : Int) then bif decide ((t.size : Int) ≥ 1) then bif inKB .i64 (t.size : Int) then bif decide ((t.size : Int) ≤ 20) then nmT t 21 0 else .leaf (false, ()) else .fail else .leaf (false, ()) else .fail
noncomputable def X_nm : Ctx := ctxU 21 Tryz.prog plNm [(131, Tryz.f131), (170, Tryz.f170), (193, Tryz.f193), (203, Tryz.f203)]
theorem X_nm_ok : CtxOk X_nm := ctxU_ok mixed puNm (fns_cons is_vname (fns_cons is_sCont (fns_cons is_sIdx (fns_cons is_sidx fns_nil))))
theorem T_name_eq (t : ByteArray) : evFn X_nm 12 (.fn 131) [.val (.string t)] noHeap 0 (outK Tryz.prog [.b]) = T_name t := by kernel_rfl
end St
end V
end Go.Proofs.YtkiaifmbbnnliaaGreat
namespace Go.Proofs.YtkiaifmbbnnliaaGreat
open Go.RowKit
namespace V
namespace St
def bytesL (t : ByteArray) : List UInt8 := t.data.toList
def badU (b : UInt8) : Bool := badR ((b.toNat : Nat) : Int)
def namedB (t : ByteArray) : Bool := decide (1 ≤ t.size ∧ t.size ≤ 20) && !(bytesL t).any badU
theorem bytes_len (t : ByteArray) : (bytesL t).length = t.size := Array.length_toList
theorem ik64 {n : Int} (h : 0 ≤ n) (h2 : n ≤ 9223372036854775807) : inKB .i64 n = true := by
  unfold inKB
  rw [decide_eq_true (show minK .i64 ≤ n by simp only [minK]; omega), decide_eq_true (show n ≤ maxK .i64 by simp only [maxK]; omega)]; rfl
theorem ik32 {n : Int} (h : 0 ≤ n) (h2 : n ≤ 2147483647) : inKB .i32 n = true := by
  unfold inKB
  rw [decide_eq_true (show minK .i32 ≤ n by simp only [minK]; omega), decide_eq_true (show n ≤ maxK .i32 by simp only [maxK]; omega)]; rfl
theorem get_at {t : ByteArray} {i : Nat} (h : i < t.size) : t.get! i = (bytesL t)[i]'(by rw [bytes_len]; exact h) := by
  have h' : i < t.data.size := h
  show t.data[i]! = _
  rw [getElem!_pos t.data i h']
  simp [bytesL]
theorem dec_lo {t : ByteArray} {i : Nat} (h : (t.get! i).toNat < 128) : Utf8.decode t i = ((t.get! i).toNat, 1) := by
  unfold Utf8.decode
  simp only [Nat.add_zero]
  rw [if_pos h]
theorem dec_hi {t : ByteArray} {i : Nat} (h : ¬ (t.get! i).toNat < 128) : 128 ≤ (Utf8.decode t i).1 ∧ (Utf8.decode t i).1 ≤ 2100000 := by
  have hb : (t.get! i).toNat < 256 := (t.get! i).toNat_lt
  unfold Utf8.decode
  simp only [Nat.add_zero]
  rw [if_neg h]
  have m1 := Nat.mod_lt (t.get! (i + 1)).toNat (show 0 < 64 by omega)
  have m2 := Nat.mod_lt (t.get! (i + 2)).toNat (show 0 < 64 by omega)
  have m3 := Nat.mod_lt (t.get! (i + 3)).toNat (show 0 < 64 by omega)
  have r : 128 ≤ Utf8.runeError ∧ Utf8.runeError ≤ 2100000 := by decide
  split
  · split
    · rename_i hc
      simp only
      omega
    · exact r
  · split
    · split
      · rename_i hc
        simp only [ge_iff_le, Bool.and_eq_true, decide_eq_true_eq] at hc
        simp only
        omega
      · exact r
    · split
      · split
        · rename_i hc
          simp only [ge_iff_le, Bool.and_eq_true, decide_eq_true_eq] at hc
          simp only
          omega
        · exact r
      · exact r
theorem bad_hi {r : Nat} (h : 128 ≤ r) : badR (r : Int) = true := by
  unfold badR
  rw [decide_eq_true (show (r : Int) > 122 by omega), decide_eq_true (show (r : Int) > 57 by omega)]
  simp
theorem nmT_eq {t : ByteArray} (hs : t.size ≤ 20) : ∀ (n pos : Nat), pos ≤ t.size → t.size - pos < n → nmT t n pos = .leaf (!((bytesL t).drop pos).any badU, ())
  | 0, _, _, h => absurd h (Nat.not_lt_zero _)
  | n + 1, pos, hp, hn => by
    unfold nmT
    by_cases hlt : pos < t.size
    · have hb : Nat.ble (pos + 1) t.size = true := by rw [Nat.ble_eq]; omega
      have hd : (bytesL t).drop pos = (bytesL t)[pos]'(by rw [bytes_len]; exact hlt) :: (bytesL t).drop (pos + 1) := List.drop_eq_getElem_cons _
      rw [hb, cond_true, hd, List.any_cons, ← get_at hlt]
      by_cases h8 : (t.get! pos).toNat < 128
      · rw [dec_lo h8]
        simp only
        have hk : (inKB .i64 (pos : Int) && inKB .i32 (((t.get! pos).toNat : Nat) : Int)) = true := by
          rw [ik64 (by omega) (by omega), ik32 (by omega) (by omega)]; rfl
        rw [hk, cond_true]
        show (bif badU (t.get! pos) == true then _ else _ : TBo) = _
        cases hbd : badU (t.get! pos) with
        | true =>
          rw [decide_eq_true (show (pos : Int) ≥ 0 by omega)]
          rfl
        | false =>
          show nmT t n (pos + 1) = _
          rw [nmT_eq hs n (pos + 1) (by omega) (by omega), Bool.false_or]
      · obtain ⟨h1, h2⟩ := dec_hi h8
        have hk : (inKB .i64 (pos : Int) && inKB .i32 (((Utf8.decode t pos).1 : Nat) : Int)) = true := by
          rw [ik64 (by omega) (by omega), ik32 (by omega) (by omega)]; rfl
        have hbu : badU (t.get! pos) = true := bad_hi (by omega)
        rw [hk, cond_true, bad_hi h1, hbu, decide_eq_true (show (pos : Int) ≥ 0 by omega)]
        rfl
    · have hb : Nat.ble (pos + 1) t.size = false := by
        cases h : Nat.ble (pos + 1) t.size with
        | false => rfl
        | true => rw [Nat.ble_eq] at h; omega
      rw [hb, cond_false, List.drop_eq_nil_of_le (by rw [bytes_len]; omega)]
      rfl
theorem T_name_ok {t : ByteArray} (h64 : (t.size : Int) ≤ maxK .i64) : (T_name t).sat (fun y => y = (namedB t, ())) := by
  unfold T_name namedB
  have hk : inKB .i64 (t.size : Int) = true := ik64 (by omega) (by simp only [maxK] at h64; exact h64)
  rw [hk]
  simp only [cond_true]
  by_cases h1 : 1 ≤ t.size
  · rw [decide_eq_true (show (t.size : Int) ≥ 1 by omega)]
    by_cases h2 : t.size ≤ 20
    · rw [decide_eq_true (show (t.size : Int) ≤ 20 by omega), decide_eq_true (show 1 ≤ t.size ∧ t.size ≤ 20 from ⟨h1, h2⟩), cond_true, cond_true, nmT_eq h2 21 0 (by omega) (by omega)]
      exact rfl
    · rw [decide_eq_false (show ¬ (t.size : Int) ≤ 20 by omega), decide_eq_false (show ¬ (1 ≤ t.size ∧ t.size ≤ 20) from fun h => h2 h.2)]
      exact rfl
  · rw [decide_eq_false (show ¬ (t.size : Int) ≥ 1 by omega), decide_eq_false (show ¬ (1 ≤ t.size ∧ t.size ≤ 20) from fun h => h1 h.1)]
    exact rfl
end St
end V
end Go.Proofs.YtkiaifmbbnnliaaGreat
namespace Go.Proofs.YtkiaifmbbnnliaaGreat
open Go.RowKit
namespace V
namespace St
theorem is_Named : FnIs Tryz.prog (88, Tryz.f88) := ⟨Tryz.func88, by kernel_rfl, by kernel_rfl⟩
abbrev s_name : PureT := spec [.s] [.b] (fun x => decide ((x.1.size : Int) ≤ maxK .i64)) (fun x => (namedB x.1, ()))
theorem q_vname : PureOk Tryz.prog 131 s_name := q_by X_nm_ok 12 (fun x => T_name x.1) (fun x => T_name_eq x.1) fun x hok _ => T_name_ok (of_decide_eq_true hok)
noncomputable def lb_nm : Code := (loopsOf (bodyOf Tryz.f88)).getD 0 .skip
def L_nm : Lay := { keys := [0, 3], ks := [.d .s, .d cI], bs := [], n := 41, nx := 1000, marks := [] }
def R_nm : Lay := { keys := [], ks := [], bs := [], n := 41, nx := 1000, marks := [] }
def Rf_nm : Lay := { keys := [2], ks := [.d .b], bs := [], n := 41, nx := 1000, marks := [] }
def E_nm : XE → Lay := fun e => match e with | .ret => Rf_nm | _ => R_nm
def hd_nm (t : ByteArray) (i : Int) : L_nm.T := ((t, i, ()), ())
def rt_nm : Left' E_nm := ⟨.ret, ((false, ()), ())⟩
def ex_nm : Left' E_nm := ⟨.exit 0, ((), ())⟩
abbrev TNm := Tree (L_nm.T ⊕ Left' E_nm)
def byI (t : ByteArray) (i : Int) : Int := ((((t.data.toList.getD (Int.toNat i) 0).toNat : Nat)) : Int)
def inI (t : ByteArray) (i : Int) (k : TNm) : TNm := bif decide (0 ≤ i ∧ i < (t.size : Int)) then k else .fail
def dig_nm (t : ByteArray) (i : Int) : TNm := inI t i (bif decide (byI t i ≥ 48) then inI t i (bif !decide (byI t i ≤ 57) then .leaf (.inr rt_nm) else .leaf (.inl (hd_nm t (W64 (i + 1))))) else .leaf (.inr rt_nm))
def st_nm' (t : ByteArray) (i : Int) : TNm :=
  bif inKB .i64 (t.size : Int) then bif decide (i < (t.size : Int)) then
    inI t i (bif decide (byI t i ≥ 97) then inI t i (bif decide (byI t i ≤ 122) then .leaf (.inl (hd_nm t (W64 (i + 1)))) else dig_nm t i) else dig_nm t i)
  else .leaf (.inr ex_nm) else .fail
def st_nm (g : L_nm.T) : TNm := st_nm' g.1.1 g.1.2.1
def fu_nm (g : L_nm.T) : Nat := (bytesL g.1.1).length + 1
noncomputable def X_nm0 : Ctx := ctx Tryz.prog [] []
theorem X_nm0_ok : CtxOk X_nm0 := ctx_ok mixed puOk_nil fns_nil
theorem l_nm : LoopOk Tryz.prog 88 lb_nm (loopSum L_nm E_nm (finX [.ret, .exit 0] st_nm fu_nm)) := loopOk_x0 X_nm0_ok 7 _ L_nm E_nm (fun e => by cases e <;> exact Nat.le_refl _) [.ret, .exit 0] st_nm fu_nm (fun g => by kernel_rfl)
noncomputable def X_Nm : Ctx := ctxL Tryz.prog [] [(88, Tryz.f88)] [((88, 4), loopSum L_nm E_nm (finX [.ret, .exit 0] st_nm fu_nm))]
theorem X_Nm_ok : CtxOk X_Nm := ctxL_ok mixed puOk_nil (fns_cons is_Named fns_nil) (loops_one (by kernel_rfl) (by kernel_rfl) l_nm)
def y_nm (t : ByteArray) : Option (Left' E_nm) := iter st_nm ((bytesL t).length + 1) (hd_nm t 0)
def T_Nm (t : ByteArray) : TBo := bif inKB .i64 (t.size : Int) then bif decide ((t.size : Int) < 1) then .leaf (false, ()) else bif inKB .i64 (t.size : Int) then bif decide ((t.size : Int) > 20) then .leaf (false, ()) else
  bif isE .ret (y_nm t) then .leaf ((valE .ret (y_nm t)).1.1, ()) else bif isE (.exit 0) (y_nm t) then .leaf (true, ()) else .fail else .fail else .fail
theorem byI_eq {t : ByteArray} {i : Nat} (h : i < (bytesL t).length) : byI t (i : Int) = ((((bytesL t)[i]).toNat : Nat) : Int) := by
  unfold byI
  rw [show Int.toNat (i : Int) = i by omega]
  show ((((bytesL t).getD i 0).toNat : Nat) : Int) = _
  rw [List.getD_eq_getElem?_getD, List.getElem?_eq_getElem h]
  rfl
theorem y_nm_eq {t : ByteArray} (h64 : (t.size : Int) ≤ maxK .i64) : y_nm t = some (bif (bytesL t).any badU then rt_nm else ex_nm) := by
  have h64' : (t.size : Int) ≤ 9223372036854775807 := h64
  have hlen := bytes_len t
  unfold y_nm
  have key := iter_list (st := st_nm) (bytesL t) (fun i (_ : Unit) => hd_nm t (i : Int)) (fun _ b _ => bif badU b then some (.inr rt_nm) else some (.inl ())) (fun _ => some ex_nm) (fun _ _ => True)
    (fun i s hi _ => by
      have hI : decide (0 ≤ (i : Int) ∧ (i : Int) < (t.size : Int)) = true := decide_eq_true (by omega)
      have hrun : (st_nm (hd_nm t (i : Int))).run = some (bif badU (bytesL t)[i] then .inr rt_nm else .inl (hd_nm t ((i + 1 : Nat) : Int))) := by
        show (st_nm' t (i : Int)).run = _
        unfold st_nm' dig_nm inI badU badR
        rw [ik64 (by omega) h64', decide_eq_true (show (i : Int) < (t.size : Int) by omega), hI, byI_eq hi, W64_id (n := (i : Int) + 1) (by omega) (by omega)]
        generalize ((((bytesL t)[i]).toNat : Nat) : Int) = b
        by_cases h1 : b < 97
        · rw [decide_eq_true h1, decide_eq_false (show ¬ b ≥ 97 by omega)]
          by_cases h2 : b < 48
          · rw [decide_eq_true h2, decide_eq_false (show ¬ b ≥ 48 by omega)]; simp; rfl
          · rw [decide_eq_false h2, decide_eq_true (show b ≥ 48 by omega)]
            by_cases h3 : b > 57
            · rw [decide_eq_true h3, decide_eq_false (show ¬ b ≤ 57 by omega)]; simp; rfl
            · rw [decide_eq_false h3, decide_eq_true (show b ≤ 57 by omega)]; simp; rfl
        · rw [decide_eq_false h1, decide_eq_true (show b ≥ 97 by omega)]
          by_cases h2 : b > 122
          · rw [decide_eq_true h2, decide_eq_false (show ¬ b ≤ 122 by omega), decide_eq_false (show ¬ b < 48 by omega), decide_eq_true (show b ≥ 48 by omega), decide_eq_true (show b > 57 by omega), decide_eq_false (show ¬ b ≤ 57 by omega)]; simp; rfl
          · rw [decide_eq_false h2, decide_eq_true (show b ≤ 122 by omega)]; simp; rfl
      cases hb : badU (bytesL t)[i] with
      | true =>
        rw [hb] at hrun
        simp only [cond_true]
        exact hrun
      | false =>
        rw [hb] at hrun
        simp only [cond_false]
        exact ⟨hrun, trivial⟩)
    (fun s e _ he => by
      cases he
      show (st_nm' t (((bytesL t).length : Nat) : Int)).run = _
      unfold st_nm'
      rw [ik64 (by omega) h64', decide_eq_false (show ¬ (((bytesL t).length : Nat) : Int) < (t.size : Int) by omega)]
      rfl)
    (bytesL t).length 0 () (bif (bytesL t).any badU then rt_nm else ex_nm) ((bytesL t).length + 1) (by omega) (by omega) trivial (by rw [List.drop_zero]; exact runO_any badU (fun _ => rt_nm) ex_nm _ 0)
  exact key
theorem T_Nm_ok {t : ByteArray} (h64 : (t.size : Int) ≤ maxK .i64) : (T_Nm t).sat (fun y => y = (namedB t, ())) := by
  unfold T_Nm namedB
  rw [ik64 (by omega) (show (t.size : Int) ≤ 9223372036854775807 from h64), y_nm_eq h64]
  simp only [cond_true]
  by_cases h1 : 1 ≤ t.size
  · rw [decide_eq_false (show ¬ (t.size : Int) < 1 by omega)]
    by_cases h2 : t.size ≤ 20
    · rw [decide_eq_false (show ¬ (t.size : Int) > 20 by omega), decide_eq_true (show 1 ≤ t.size ∧ t.size ≤ 20 from ⟨h1, h2⟩)]
      cases (bytesL t).any badU <;> exact rfl
    · rw [decide_eq_true (show (t.size : Int) > 20 by omega), decide_eq_false (show ¬ (1 ≤ t.size ∧ t.size ≤ 20) from fun h => h2 h.2)]
      exact rfl
  · rw [decide_eq_true (show (t.size : Int) < 1 by omega), decide_eq_false (show ¬ (1 ≤ t.size ∧ t.size ≤ 20) from fun h => h1 h.1)]
    exact rfl
theorem q_Named : PureOk Tryz.prog 88 s_name := q_by X_Nm_ok 7 (fun x => T_Nm x.1) (fun x => by kernel_rfl) fun x hok _ => T_Nm_ok (of_decide_eq_true hok)
end St
end V
end Go.Proofs.YtkiaifmbbnnliaaGreat
namespace Go.Proofs.YtkiaifmbbnnliaaGreat
open Go.RowKit
namespace V
namespace St
theorem is_Touch : FnIs Tryz.prog (174, Tryz.f174) := ⟨Tryz.func174, by kernel_rfl, by kernel_rfl⟩
theorem is_tCD : FnIs Tryz.prog (188, Tryz.f188) := ⟨Tryz.func188, by kernel_rfl, by kernel_rfl⟩
theorem is_tsq : FnIs Tryz.prog (111, Tryz.f111) := ⟨Tryz.func111, by kernel_rfl, by kernel_rfl⟩
theorem is_cmp64 : FnIs Tryz.prog (194, Tryz.f194) := ⟨Tryz.func194, by kernel_rfl, by kernel_rfl⟩
theorem is_nan64 : FnIs Tryz.prog (204, Tryz.f204) := ⟨Tryz.func204, by kernel_rfl, by kernel_rfl⟩
theorem is_lapart : FnIs Tryz.prog (139, Tryz.f139) := ⟨Tryz.func139, by kernel_rfl, by kernel_rfl⟩
def cmpI (x y : Int) : Int := bif decide (x < y) then -1 else bif decide (x > y) then 1 else 0
def cdE (a : TCT cDisc) : Int := u_cd a.1.1 a.1.2.1 a.2.1
def sqD (a b : TCT cDisc) : Int := W64 (W64 (W64 (b.1.1 - a.1.1) * W64 (b.1.1 - a.1.1)) + W64 (W64 (b.1.2.1 - a.1.2.1) * W64 (b.1.2.1 - a.1.2.1)))
def srD (a b : TCT cDisc) : Int := W64 (W64 (a.2.1 + b.2.1) * W64 (a.2.1 + b.2.1))
def touN (a b : TCT cDisc) : Int := bif cdE a == 0 && cdE b == 0 then cmpI (sqD a b) (srD a b) else 0
def touE (a b : TCT cDisc) : Int := bif cdE a == 0 && cdE b == 0 then 0 else 2
abbrev s_Touch : PureT := spec [cDisc, cDisc] [cI, cI] (fun _ => true) (fun x => (touN x.1 x.2.1, touE x.1 x.2.1, ()))
abbrev TTo := Tree (TCTs [cI, cI])
def T_cmp (x y : Int) : TTo := bif x != x then bif y != y then .leaf (0, 0, ()) else .leaf (-1, 0, ()) else bif y != y then .leaf (1, 0, ()) else bif decide (x < y) then .leaf (-1, 0, ()) else bif decide (x > y) then .leaf (1, 0, ()) else .leaf (0, 0, ())
def T_Touch (a b : TCT cDisc) : TTo := bif cdE a != 0 then .leaf (0, 2, ()) else bif cdE b != 0 then .leaf (0, 2, ()) else T_cmp (sqD a b) (srD a b)
theorem T_Touch_ok (a b : TCT cDisc) : (T_Touch a b).sat (fun y => y = (touN a b, touE a b, ())) := by
  unfold T_Touch touN touE T_cmp cmpI
  rw [bne_self_eq_false, bne_self_eq_false]
  have e : ∀ n : Int, (n != 0) = !(n == 0) := fun _ => rfl
  rw [e, e]
  cases cdE a == 0 <;> cases cdE b == 0 <;> try exact rfl
  cases decide (sqD a b < srD a b) <;> cases decide (sqD a b > srD a b) <;> exact rfl
theorem q_Touch : PureOk Tryz.prog 174 s_Touch := q_by (ctx_ok mixed (puOk_cons is_tCD.plain q_CheckDisc puOk_nil) (fns_cons is_Touch (fns_cons is_tsq (fns_cons is_cmp64 (fns_cons is_nan64 fns_nil))))) 5 (fun x => T_Touch x.1 x.2.1) (fun x => by kernel_rfl) fun x _ _ => T_Touch_ok _ _
def plAp : List (Nat × PureT) := [(174, s_Touch), (132, s_inR)]
theorem puAp : PuOk Tryz.prog plAp := puOk_cons is_Touch.plain q_Touch (puOk_cons is_between2.plain q_between2 puOk_nil)
noncomputable def lb_ao : Code := (loopsOf (bodyOf Tryz.f139)).getD 0 .skip
noncomputable def lb_ai : Code := (loopsOf (bodyOf Tryz.f139)).getD 1 .skip
abbrev kD3 : List SK := [.d cI, .d cI, .d cI]
def d3 (d : SKTs kD3) : TCT cDisc := ((d.1, d.2.1, ()), d.2.2.1, ())
def etaD (d : TCT cDisc) : TCT cDisc := ((d.1.1, d.1.2.1, ()), d.2.1, ())
def toD (d : TCT cDisc) : SKTs kD3 := (d.1.1, d.1.2.1, d.2.1, ())
def L_ai : Lay := { keys := [1, 2, 6, 11, 12, 13, 46, 47, 48], ks := [.d (.sl cDisc), .p 0 0 0 0, .p 1000 0 0 0, .d (.sl cDisc), .d cI, .d cI, .d (.sl cDisc), .d cI, .d cI], bs := [(0, 29, kLw), (1000, 26, kD3)], n := 62, nx := 2000, marks := [] }
def R_ai : Lay := { keys := [1, 2, 11, 12, 13], ks := [.d (.sl cDisc), .p 0 0 0 0, .d (.sl cDisc), .d cI, .d cI], bs := [(0, 29, kLw)], n := 62, nx := 2000, marks := [] }
def Rf_ap : Lay := { keys := [4], ks := [.d .b], bs := [], n := 62, nx := 2000, marks := [] }
def E_ai : XE → Lay := fun e => match e with | .ret => Rf_ap | _ => R_ai
def L_ao : Lay := { keys := [1, 2, 11, 12, 13], ks := [.d (.sl cDisc), .p 0 0 0 0, .d (.sl cDisc), .d cI, .d cI], bs := [(0, 29, kLw)], n := 62, nx := 1000, marks := [] }
def R_ao : Lay := { keys := [], ks := [], bs := [], n := 62, nx := 2000, marks := [] }
def E_ao : XE → Lay := fun e => match e with | .ret => Rf_ap | _ => R_ao
def hd_ai (x : SKTs kLw) (d : SKTs kD3) (p q : List (TCT cDisc)) (n i : Int) (r : List (TCT cDisc)) (m k : Int) : L_ai.T := ((p, (), (), q, n, i, r, m, k, ()), (x, d, ()))
def rt_ai : Left' E_ai := ⟨.ret, ((false, ()), ())⟩
def ex_ai (x : SKTs kLw) (p q : List (TCT cDisc)) (n i : Int) : Left' E_ai := ⟨.exit 2, ((p, (), q, n, i, ()), (x, ()))⟩
def st_ai (g : L_ai.T) : Tree (L_ai.T ⊕ Left' E_ai) :=
  bif decide (g.1.2.2.2.2.2.2.2.2.1 < g.1.2.2.2.2.2.2.2.1) then bif decide (0 ≤ g.1.2.2.2.2.2.2.2.2.1 ∧ g.1.2.2.2.2.2.2.2.2.1 < ((g.1.2.2.2.2.2.2.1 : List (TCT cDisc)).length : Int)) then
    bif decide (touN (d3 g.2.2.1) (etaD (getA g.1.2.2.2.2.2.2.1 (Int.toNat g.1.2.2.2.2.2.2.2.2.1) (dflt cDisc))) < 0) then .leaf (.inr rt_ai) else .leaf (.inl (hd_ai g.2.1 g.2.2.1 g.1.1 g.1.2.2.2.1 g.1.2.2.2.2.1 g.1.2.2.2.2.2.1 g.1.2.2.2.2.2.2.1 g.1.2.2.2.2.2.2.2.1 (W64 (g.1.2.2.2.2.2.2.2.2.1 + 1))))
  else .fail else .leaf (.inr (ex_ai g.2.1 g.1.1 g.1.2.2.2.1 g.1.2.2.2.2.1 g.1.2.2.2.2.2.1))
def fu_ai (g : L_ai.T) : Nat := (g.1.2.2.2.2.2.2.1 : List (TCT cDisc)).length + 1
noncomputable def X_ap0 : Ctx := ctx Tryz.prog plAp []
theorem X_ap0_ok : CtxOk X_ap0 := ctx_ok mixed puAp fns_nil
theorem l_ai : LoopOk Tryz.prog 139 lb_ai (loopSum L_ai E_ai (finX [.ret, .exit 2] st_ai fu_ai)) := loopOk_x0 X_ap0_ok 7 _ L_ai E_ai (fun e => by cases e <;> exact Nat.le_refl _) [.ret, .exit 2] st_ai fu_ai (fun g => by kernel_rfl)
def allI {α : Type} (ok : Nat → α → Bool) : Nat → List α → Bool
  | _, [] => true
  | i, x :: l => ok i x && allI ok (i + 1) l
theorem runO_all {α E : Type} (ok : Nat → α → Bool) (r d : E) : ∀ (l : List α) (i : Nat), runO (fun i x (_ : Unit) => bif ok i x then some (.inl ()) else some (.inr r)) (fun _ => some d) i l () = some (bif allI ok i l then d else r)
  | [], i => rfl
  | x :: l, i => by
    simp only [runO, allI]
    cases ok i x with
    | true => simp only [cond_true, Bool.true_and]; exact runO_all ok r d l (i + 1)
    | false => rfl
def touB (d o : TCT cDisc) : Bool := decide (touN d o < 0)
theorem y_ai_eq (x : SKTs kLw) (d : TCT cDisc) (p q : List (TCT cDisc)) (n i : Int) (r : List (TCT cDisc)) (hr : (r.length : Int) ≤ maxK .i64) :
    iter st_ai (r.length + 1) (hd_ai x (toD d) p q n i r r.length 0) = some (bif r.any (touB d) then rt_ai else ex_ai x p q n i) := by
  have hr' : (r.length : Int) ≤ 9223372036854775807 := hr
  have key := iter_list (st := st_ai) r (fun k (_ : Unit) => hd_ai x (toD d) p q n i r r.length (k : Int)) (fun _ o _ => bif touB d o then some (.inr rt_ai) else some (.inl ())) (fun _ => some (ex_ai x p q n i)) (fun _ _ => True)
    (fun k s hk _ => by
      have hrun : (st_ai (hd_ai x (toD d) p q n i r r.length (k : Int))).run = some (bif touB d r[k] then .inr rt_ai else .inl (hd_ai x (toD d) p q n i r r.length ((k + 1 : Nat) : Int))) := by
        show (bif decide ((k : Int) < (r.length : Int)) then bif decide (0 ≤ (k : Int) ∧ (k : Int) < (r.length : Int)) then bif touB d (etaD (getA r (Int.toNat (k : Int)) (dflt cDisc))) then Tree.leaf (Sum.inr rt_ai) else .leaf (.inl (hd_ai x (toD d) p q n i r r.length (W64 ((k : Int) + 1)))) else .fail else .leaf (.inr (ex_ai x p q n i)) : Tree (L_ai.T ⊕ Left' E_ai)).run = _
        rw [decide_eq_true (show (k : Int) < (r.length : Int) by omega), decide_eq_true (show 0 ≤ (k : Int) ∧ (k : Int) < (r.length : Int) by omega), show Int.toNat (k : Int) = k by omega, getA_lt hk, W64_id (n := (k : Int) + 1) (by omega) (by omega)]
        show (bif touB d r[k] then _ else _ : Tree (L_ai.T ⊕ Left' E_ai)).run = _
        cases touB d r[k] <;> rfl
      cases hb : touB d r[k] with
      | true => rw [hb] at hrun; simp only [cond_true]; exact hrun
      | false => rw [hb] at hrun; simp only [cond_false]; exact ⟨hrun, trivial⟩)
    (fun s e _ he => by
      cases he
      show (bif decide ((r.length : Int) < (r.length : Int)) then _ else Tree.leaf (Sum.inr (ex_ai x p q n i)) : Tree (L_ai.T ⊕ Left' E_ai)).run = _
      rw [decide_eq_false (show ¬ (r.length : Int) < (r.length : Int) by omega)]
      rfl)
    r.length 0 () (bif r.any (touB d) then rt_ai else ex_ai x p q n i) (r.length + 1) (by omega) (by omega) trivial (by rw [List.drop_zero]; exact runO_any (touB d) (fun _ => rt_ai) (ex_ai x p q n i) _ 0)
  exact key
end St
end V
end Go.Proofs.YtkiaifmbbnnliaaGreat
namespace Go.Proofs.YtkiaifmbbnnliaaGreat
open Go.RowKit
namespace V
namespace St
def hd_ao (x : SKTs kLw) (p q : List (TCT cDisc)) (n i : Int) : L_ao.T := ((p, (), q, n, i, ()), (x, ()))
def rt_ao (b : Bool) : Left' E_ao := ⟨.ret, ((b, ()), ())⟩
def ex_ao : Left' E_ao := ⟨.exit 0, ((), ())⟩
abbrev TAo := Tree (L_ao.T ⊕ Left' E_ao)
def y_ai (x : SKTs kLw) (d : SKTs kD3) (p q : List (TCT cDisc)) (n i : Int) (r : List (TCT cDisc)) : Option (Left' E_ai) := iter st_ai (r.length + 1) (hd_ai x d p q n i r r.length 0)
def nx_ao (r : R_ai.T) : L_ao.T := hd_ao r.2.1 r.1.1 r.1.2.2.1 r.1.2.2.2.1 (W64 (r.1.2.2.2.2.1 + 1))
def ct_ao (y : Option (Left' E_ai)) : TAo := bif isE .ret y then .leaf (.inr (rt_ao (valE .ret y).1.1)) else bif isE (.exit 2) y then .leaf (.inl (nx_ao (valE (.exit 2) y))) else .fail
def bd_ao (x : SKTs kLw) (p q : List (TCT cDisc)) (n i : Int) (d : TCT cDisc) : TAo :=
  bif !inR d.1.1 d.2.1 (W64 (x.2.1 - d.2.1)) then .leaf (.inr (rt_ao false)) else bif !inR d.1.2.1 d.2.1 (W64 (x.2.2.1 - d.2.1)) then .leaf (.inr (rt_ao false)) else
  bif decide (0 ≤ i ∧ i ≤ (p.length : Int)) then ct_ao (y_ai x (toD d) p q n i (p.take (Int.toNat i))) else .fail
def st_ao (g : L_ao.T) : TAo :=
  bif decide (g.1.2.2.2.2.1 < g.1.2.2.2.1) then bif decide (0 ≤ g.1.2.2.2.2.1 ∧ g.1.2.2.2.2.1 < ((g.1.2.2.1 : List (TCT cDisc)).length : Int)) then
    bd_ao g.2.1 g.1.1 g.1.2.2.1 g.1.2.2.2.1 g.1.2.2.2.2.1 (getA g.1.2.2.1 (Int.toNat g.1.2.2.2.2.1) (dflt cDisc)) else .fail else .leaf (.inr ex_ao)
def fu_ao (g : L_ao.T) : Nat := (g.1.2.2.1 : List (TCT cDisc)).length + 1
def Lt_ao : LoopT := fun k => bif Nat.beq k 7 then some (loopSum L_ai E_ai (finX [.ret, .exit 2] st_ai fu_ai)) else none
theorem e_ao (g : L_ao.T) : evC X_ap0.P (evFn X_ap0 7) X_ap0.pures 139 X_ap0.u Lt_ao lb_ao (L_ao.of g) (stepOut L_ao E_ao) = st_ao g := by kernel_rfl
theorem loops_ao : loopsOf lb_ao = [lb_ai] := by kernel_rfl
theorem key_ai : keyOf lb_ai = 7 := by kernel_rfl
theorem l_ao : LoopOk Tryz.prog 139 lb_ao (loopSum L_ao E_ao (finX [.ret, .exit 0] st_ao fu_ao)) :=
  loopOk_x X_ap0_ok 7 _ Lt_ao (fun d hd f hf => by
    rw [loops_ao, List.mem_singleton] at hd
    subst hd
    rw [key_ai] at hf
    cases hf
    exact l_ai) L_ao E_ao (fun e => by cases e <;> exact (by decide : (1000 : Nat) ≤ 2000)) [.ret, .exit 0] st_ao fu_ao e_ao
theorem loops_in {P : Program} {f : Nat} {fn : Func} {la : Code} {sum : St → Tree (XE × St)} {k : Nat} (h1 : ∀ d ∈ loopsOf (bodyOf fn), keyOf d = k → d = la) (h2 : LoopOk P f la sum) :
    ∀ p ∈ [(f, fn)], ∀ d ∈ loopsOf (bodyOf p.2), ∀ g, assoc2 [((f, k), sum)] p.1 (keyOf d) = some g → LoopOk P p.1 d g := by
  intro p hp d hd g hg
  simp only [List.mem_singleton] at hp
  subst hp
  simp only at hd hg
  by_cases hk : keyOf d = k
  · rw [h1 d hd hk]
    rw [hk] at hg
    simp [assoc2] at hg
    subst hg
    exact h2
  · have : Nat.beq k (keyOf d) = false := by
      cases h : Nat.beq k (keyOf d) with
      | false => rfl
      | true => exact absurd (Nat.eq_of_beq_eq_true h).symm hk
    simp only [assoc2, this, Bool.and_false, cond_false] at hg
    cases hg
theorem loops_ap : loopsOf (bodyOf Tryz.f139) = [lb_ao, lb_ai] := by kernel_rfl
noncomputable def X_ap : Ctx := ctxL Tryz.prog plAp [(139, Tryz.f139)] [((139, 2), loopSum L_ao E_ao (finX [.ret, .exit 0] st_ao fu_ao))]
theorem X_ap_ok : CtxOk X_ap := ctxL_ok mixed puAp (fns_cons is_lapart fns_nil) (loops_in (fun d hd hk => by
  rw [loops_ap, List.mem_cons, List.mem_singleton] at hd
  rcases hd with rfl | rfl
  · rfl
  · rw [key_ai] at hk; cases hk) l_ao)
def insB (w l : Int) (d : TCT cDisc) : Bool := inR d.1.1 d.2.1 (W64 (w - d.2.1)) && inR d.1.2.1 d.2.1 (W64 (l - d.2.1))
def apF (w l : Int) (p : List (TCT cDisc)) : Bool := allI (fun i d => insB w l d && !(p.take i).any (touB d)) 0 p
def y_ao (l : TCT cLawn) (p : List (TCT cDisc)) : Option (Left' E_ao) := iter st_ao (p.length + 1) (hd_ao (lwTo l) p p p.length 0)
def T_ap (l : TCT cLawn) (p : List (TCT cDisc)) : TBo := bif isE .ret (y_ao l p) then .leaf ((valE .ret (y_ao l p)).1.1, ()) else bif isE (.exit 0) (y_ao l p) then .leaf (true, ()) else .fail
theorem y_ao_eq (l : TCT cLawn) (p : List (TCT cDisc)) (hp : (p.length : Int) ≤ maxK .i64) : y_ao l p = some (bif apF l.2.1 l.2.2.1 p then ex_ao else rt_ao false) := by
  have hp' : (p.length : Int) ≤ 9223372036854775807 := hp
  unfold y_ao
  have key := iter_list (st := st_ao) p (fun i (_ : Unit) => hd_ao (lwTo l) p p p.length (i : Int)) (fun i d _ => bif insB l.2.1 l.2.2.1 d && !(p.take i).any (touB d) then some (.inl ()) else some (.inr (rt_ao false))) (fun _ => some ex_ao) (fun _ _ => True)
    (fun i s hi _ => by
      have hrun : (st_ao (hd_ao (lwTo l) p p p.length (i : Int))).run = some (bif insB l.2.1 l.2.2.1 p[i] && !(p.take i).any (touB p[i]) then .inl (hd_ao (lwTo l) p p p.length ((i + 1 : Nat) : Int)) else .inr (rt_ao false)) := by
        show (bif decide ((i : Int) < (p.length : Int)) then bif decide (0 ≤ (i : Int) ∧ (i : Int) < (p.length : Int)) then bd_ao (lwTo l) p p p.length (i : Int) (getA p (Int.toNat (i : Int)) (dflt cDisc)) else .fail else .leaf (.inr ex_ao) : TAo).run = _
        rw [decide_eq_true (show (i : Int) < (p.length : Int) by omega), decide_eq_true (show 0 ≤ (i : Int) ∧ (i : Int) < (p.length : Int) by omega), show Int.toNat (i : Int) = i by omega, getA_lt hi]
        simp only [cond_true]
        unfold bd_ao insB
        have hw : (lwTo l).2.1 = l.2.1 := rfl
        have hl : (lwTo l).2.2.1 = l.2.2.1 := rfl
        rw [hw, hl]
        cases inR p[i].1.1 p[i].2.1 (W64 (l.2.1 - p[i].2.1)) with
        | false => rfl
        | true =>
          cases inR p[i].1.2.1 p[i].2.1 (W64 (l.2.2.1 - p[i].2.1)) with
          | false => rfl
          | true =>
            simp only [Bool.not_true, cond_false, Bool.true_and]
            have ht : (p.take i).length = i := by rw [List.length_take]; omega
            have hy : y_ai (lwTo l) (toD p[i]) p p p.length (i : Int) (p.take i) = some (bif (p.take i).any (touB p[i]) then rt_ai else ex_ai (lwTo l) p p p.length (i : Int)) :=
              y_ai_eq (lwTo l) p[i] p p p.length (i : Int) (p.take i) (by rw [ht]; show (i : Int) ≤ 9223372036854775807; omega)
            rw [decide_eq_true (show 0 ≤ (i : Int) ∧ (i : Int) ≤ (p.length : Int) by omega), cond_true, show Int.toNat (i : Int) = i by omega, hy]
            cases (p.take i).any (touB p[i]) with
            | true => rfl
            | false =>
              show (Tree.leaf (Sum.inl (hd_ao (lwTo l) p p p.length (W64 ((i : Int) + 1)))) : TAo).run = _
              rw [W64_id (n := (i : Int) + 1) (by omega) (by omega)]
              rfl
      cases hb : insB l.2.1 l.2.2.1 p[i] && !(p.take i).any (touB p[i]) with
      | true => rw [hb] at hrun; simp only [cond_true]; exact ⟨hrun, trivial⟩
      | false => rw [hb] at hrun; simp only [cond_false]; exact hrun)
    (fun s e _ he => by
      cases he
      show (bif decide ((p.length : Int) < (p.length : Int)) then _ else Tree.leaf (Sum.inr ex_ao) : TAo).run = _
      rw [decide_eq_false (show ¬ (p.length : Int) < (p.length : Int) by omega)]
      rfl)
    p.length 0 () (bif apF l.2.1 l.2.2.1 p then ex_ao else rt_ao false) (p.length + 1) (by omega) (by omega) trivial (by
      rw [List.drop_zero]
      exact runO_all (fun i d => insB l.2.1 l.2.2.1 d && !(p.take i).any (touB d)) (rt_ao false) ex_ao p 0)
  exact key
abbrev s_apart : PureT := spec [cLawn, .sl cDisc] [.b] (fun _ => true) (fun x => (apF x.1.2.1 x.1.2.2.1 x.2.1, ()))
theorem q_apart : PureOk Tryz.prog 139 s_apart := q_by X_ap_ok 7 (fun x => T_ap x.1 x.2.1) (fun x => by kernel_rfl) fun x _ hw => by
  show (T_ap x.1 x.2.1).sat _
  unfold T_ap
  rw [y_ao_eq x.1 x.2.1 (wfl_len hw.2.1)]
  show ((bif isE .ret (some (bif apF x.1.2.1 x.1.2.2.1 x.2.1 then ex_ao else rt_ao false)) then _ else _ : TBo)).sat (fun y => y = (apF x.1.2.1 x.1.2.2.1 x.2.1, ()))
  cases apF x.1.2.1 x.1.2.2.1 x.2.1 <;> exact rfl
end St
end V
end Go.Proofs.YtkiaifmbbnnliaaGreat
namespace Go.Proofs.YtkiaifmbbnnliaaGreat
open Go.RowKit
namespace V
namespace St
theorem is_lCheck : FnIs Tryz.prog (75, Tryz.f75) := ⟨Tryz.func75, by kernel_rfl, by kernel_rfl⟩
def nxL (l : TCT cLawn) : Int := l.2.2.2.2.2.2.1
def nyL (l : TCT cLawn) : Int := l.2.2.2.2.2.2.2.1
def cellsL (l : TCT cLawn) : List (TCT cCell) := l.2.2.2.2.2.2.2.2.1
def manyB (l : TCT cLawn) : Bool := decide (((hoopsL l).length : Int) < 1) || (decide (((hoopsL l).length : Int) > 12) || decide (((cellsL l).length : Int) > 256))
def dimB (l : TCT cLawn) : Bool := namedB l.1 && (inR l.2.1 65536 4194304 && (inR l.2.2.1 65536 4194304 && inR l.2.2.2.1 0 (W64 (Int.tdiv (min l.2.1 l.2.2.1) 4))))
def numB (l : TCT cLawn) : Bool := !decide (nxL l < 1) && (!decide (nxL l > 16) && (!decide (nyL l < 1) && (!decide (nyL l > 16) && !(((cellsL l).length : Int) != W64 (nxL l * nyL l)))))
def okL (l : TCT cLawn) : Bool := dimB l && (inR (pegL l).2.1 1 8192 && (numB l && ((hoopsL l).all hoopB && ((cellsL l).all cellB && apF l.2.1 l.2.2.1 (postsF l)))))
def lawE (l : TCT cLawn) : Int := bif manyB l then 6 else bif okL l then 0 else 2
abbrev s_law : PureT := spec [cLawn] [cI] (fun x => decide ((x.1.1.size : Int) ≤ maxK .i64)) (fun x => (lawE x.1, ()))
def plLc : List (Nat × PureT) := [(131, s_name), (132, s_inR), (140, s_posts), (139, s_apart), (133, s_cfHoop), (136, s_cfCell)]
theorem puLc : PuOk Tryz.prog plLc := puOk_cons is_vname.plain q_vname (puOk_cons is_between2.plain q_between2 (puOk_cons is_lposts.plain q_posts (puOk_cons is_lapart.plain q_apart (puOk_cons is_cfHoop.plain q_cfHoop (puOk_cons is_cfCell.plain q_cfCell puOk_nil)))))
abbrev TEr := Tree (TCTs [cI])
def er (c : Bool) (e : Int) (k : TEr) : TEr := bif c then .leaf (e, ()) else k
theorem er_or {a b : Bool} {e : Int} {k : TEr} : er (a || b) e k = er a e (er b e k) := by cases a <;> cases b <;> rfl
def T_Lc (l : TCT cLawn) : TEr :=
  er (decide (((hoopsL l).length : Int) < 1)) 6 (er (decide (((hoopsL l).length : Int) > 12)) 6 (er (decide (((cellsL l).length : Int) > 256)) 6 (
  bif decide ((l.1.size : Int) ≤ maxK .i64) then er (!namedB l.1) 2 (er (!inR l.2.1 65536 4194304) 2 (er (!inR l.2.2.1 65536 4194304) 2 (er (!inR l.2.2.2.1 0 (W64 (Int.tdiv (min l.2.1 l.2.2.1) 4))) 2 (er (!inR (pegL l).2.1 1 8192) 2 (
    er (decide (nxL l < 1)) 2 (er (decide (nxL l > 16)) 2 (er (decide (nyL l < 1)) 2 (er (decide (nyL l > 16)) 2 (er (((cellsL l).length : Int) != W64 (nxL l * nyL l)) 2 (
    er ((hoopsL l).any (p_Hoop ())) 2 (er ((cellsL l).any (p_Cell ())) 2 (
    bif decide ((hoopsL l).length ≤ 1000) then er (!apF l.2.1 l.2.2.1 (postsF l)) 2 (.leaf (0, ())) else .fail))))))))))))
  else .fail)))
theorem any_not {α : Type} (p : α → Bool) (l : List α) : l.any (fun x => !p x) = !l.all p := by
  induction l with
  | nil => rfl
  | cons x l ih => simp only [List.any_cons, List.all_cons, ih, Bool.not_and]
theorem T_Lc_ok {l : TCT cLawn} (hs : (l.1.size : Int) ≤ maxK .i64) : (T_Lc l).sat (fun y => y = (lawE l, ())) := by
  unfold T_Lc lawE
  rw [← er_or, ← er_or, Bool.or_assoc]
  show (er (manyB l) 6 _).sat _
  cases hm : manyB l with
  | true => exact rfl
  | false =>
    have h12 : (hoopsL l).length ≤ 1000 := by
      unfold manyB at hm
      simp only [Bool.or_eq_false_iff, decide_eq_false_iff_not] at hm
      omega
    rw [decide_eq_true hs, decide_eq_true h12]
    show (er (!namedB l.1) 2 _).sat (fun y => y = ((bif okL l then 0 else 2), ()))
    have hh : (hoopsL l).any (p_Hoop ()) = !(hoopsL l).all hoopB := any_not hoopB _
    have hc : (cellsL l).any (p_Cell ()) = !(cellsL l).all cellB := any_not cellB _
    rw [hh, hc]
    unfold okL dimB numB
    simp only [cond_true]
    generalize namedB l.1 = b1
    generalize inR l.2.1 65536 4194304 = b2
    generalize inR l.2.2.1 65536 4194304 = b3
    generalize inR l.2.2.2.1 0 (W64 (Int.tdiv (min l.2.1 l.2.2.1) 4)) = b4
    generalize inR (pegL l).2.1 1 8192 = b5
    generalize decide (nxL l < 1) = b6
    generalize decide (nxL l > 16) = b7
    generalize decide (nyL l < 1) = b8
    generalize decide (nyL l > 16) = b9
    generalize (((cellsL l).length : Int) != W64 (nxL l * nyL l)) = b10
    generalize (hoopsL l).all hoopB = b11
    generalize (cellsL l).all cellB = b12
    generalize apF l.2.1 l.2.2.1 (postsF l) = b13
    cases b1 <;> try exact rfl
    cases b2 <;> try exact rfl
    cases b3 <;> try exact rfl
    cases b4 <;> try exact rfl
    cases b5 <;> try exact rfl
    cases b6 <;> try exact rfl
    cases b7 <;> try exact rfl
    cases b8 <;> try exact rfl
    cases b9 <;> try exact rfl
    cases b10 <;> try exact rfl
    cases b11 <;> try exact rfl
    cases b12 <;> try exact rfl
    cases b13 <;> exact rfl
theorem q_lCheck : PureOk Tryz.prog 75 s_law := q_by (ctx_ok mixed puLc (fns_cons is_lCheck fns_nil)) 7 (fun x => T_Lc x.1) (fun x => by kernel_rfl) fun x hok _ => T_Lc_ok (of_decide_eq_true hok)
end St
end V
end Go.Proofs.YtkiaifmbbnnliaaGreat
namespace Go.Proofs.YtkiaifmbbnnliaaGreat
open Go.RowKit
namespace V
namespace St
theorem iter_bad {G E α : Type} {st : G → Tree (G ⊕ E)} (l : List α) (d : α) (hd : Int → G) (bad : α → Bool) (rt ex : E) (hl : (l.length : Int) ≤ maxK .i64)
    (h : ∀ i : Int, st (hd i) = bif decide (i < (l.length : Int)) then bif decide (0 ≤ i ∧ i < (l.length : Int)) then bif bad (getA l (Int.toNat i) d) then .leaf (.inr rt) else .leaf (.inl (hd (W64 (i + 1)))) else .fail else .leaf (.inr ex)) :
    iter st (l.length + 1) (hd 0) = some (bif l.any bad then rt else ex) := by
  have hl' : (l.length : Int) ≤ 9223372036854775807 := hl
  have key := iter_list (st := st) l (fun i (_ : Unit) => hd (i : Int)) (fun _ x _ => bif bad x then some (.inr rt) else some (.inl ())) (fun _ => some ex) (fun _ _ => True)
    (fun i s hi _ => by
      have hrun : (st (hd (i : Int))).run = some (bif bad l[i] then .inr rt else .inl (hd ((i + 1 : Nat) : Int))) := by
        rw [h, decide_eq_true (show (i : Int) < (l.length : Int) by omega), decide_eq_true (show 0 ≤ (i : Int) ∧ (i : Int) < (l.length : Int) by omega), show Int.toNat (i : Int) = i by omega, getA_lt hi, W64_id (n := (i : Int) + 1) (by omega) (by omega)]
        cases bad l[i] <;> rfl
      cases hb : bad l[i] with
      | true => rw [hb] at hrun; simp only [cond_true]; exact hrun
      | false => rw [hb] at hrun; simp only [cond_false]; exact ⟨hrun, trivial⟩)
    (fun s e _ he => by
      cases he
      rw [h, decide_eq_false (show ¬ (l.length : Int) < (l.length : Int) by omega)]
      rfl)
    l.length 0 () (bif l.any bad then rt else ex) (l.length + 1) (by omega) (by omega) trivial (by rw [List.drop_zero]; exact runO_any bad (fun _ => rt) ex _ 0)
  exact key
theorem iter_all {G E α : Type} {st : G → Tree (G ⊕ E)} (l : List α) (d : α) (hd : Int → G) (ok : Nat → α → Bool) (body : Int → α → Tree (G ⊕ E)) (rt ex : E) (hl : (l.length : Int) ≤ maxK .i64)
    (h : ∀ i : Int, st (hd i) = bif decide (i < (l.length : Int)) then bif decide (0 ≤ i ∧ i < (l.length : Int)) then body i (getA l (Int.toNat i) d) else .fail else .leaf (.inr ex))
    (hb : ∀ (i : Nat) (hi : i < l.length), (body (i : Int) l[i]).run = some (bif ok i l[i] then .inl (hd ((i + 1 : Nat) : Int)) else .inr rt)) :
    iter st (l.length + 1) (hd 0) = some (bif allI ok 0 l then ex else rt) := by
  have hl' : (l.length : Int) ≤ 9223372036854775807 := hl
  have key := iter_list (st := st) l (fun i (_ : Unit) => hd (i : Int)) (fun i x _ => bif ok i x then some (.inl ()) else some (.inr rt)) (fun _ => some ex) (fun _ _ => True)
    (fun i s hi _ => by
      have hrun : (st (hd (i : Int))).run = some (bif ok i l[i] then .inl (hd ((i + 1 : Nat) : Int)) else .inr rt) := by
        rw [h, decide_eq_true (show (i : Int) < (l.length : Int) by omega), decide_eq_true (show 0 ≤ (i : Int) ∧ (i : Int) < (l.length : Int) by omega), show Int.toNat (i : Int) = i by omega, getA_lt hi]
        exact hb i hi
      cases hk : ok i l[i] with
      | true => rw [hk] at hrun; simp only [cond_true]; exact ⟨hrun, trivial⟩
      | false => rw [hk] at hrun; simp only [cond_false]; exact hrun)
    (fun s e _ he => by
      cases he
      rw [h, decide_eq_false (show ¬ (l.length : Int) < (l.length : Int) by omega)]
      rfl)
    l.length 0 () (bif allI ok 0 l then ex else rt) (l.length + 1) (by omega) (by omega) trivial (by rw [List.drop_zero]; exact runO_all ok rt ex _ 0)
  exact key
theorem is_rLaw : FnIs Tryz.prog (42, Tryz.f42) := ⟨Tryz.func42, by kernel_rfl, by kernel_rfl⟩
theorem is_rsquare : FnIs Tryz.prog (93, Tryz.f93) := ⟨Tryz.func93, by kernel_rfl, by kernel_rfl⟩
def plRc : List (Nat × PureT) := [(88, s_name), (89, s_inR), (92, s_posts), (90, s_hoopB), (91, s_cellB)]
theorem puRc : PuOk Tryz.prog plRc := puOk_cons is_Named.plain q_Named (puOk_cons is_within2.plain q_within2 (puOk_cons is_rposts.plain q_rposts (puOk_cons is_rhoop.plain q_rhoop (puOk_cons is_rcell2.plain q_rcell2 puOk_nil))))
noncomputable def X_rc0 : Ctx := ctx Tryz.prog plRc [(93, Tryz.f93)]
theorem X_rc0_ok : CtxOk X_rc0 := ctx_ok mixed puRc (fns_cons is_rsquare fns_nil)
abbrev bL : BK := (0, 29, kLw)
noncomputable def lb_c1 : Code := (loopsOf (bodyOf Tryz.f42)).getD 0 .skip
noncomputable def lb_c2 : Code := (loopsOf (bodyOf Tryz.f42)).getD 1 .skip
noncomputable def lb_c3 : Code := (loopsOf (bodyOf Tryz.f42)).getD 2 .skip
noncomputable def lb_c4 : Code := (loopsOf (bodyOf Tryz.f42)).getD 3 .skip
def L_c1 : Lay := { keys := [1, 3], ks := [.p 0 0 0 0, .d cI], bs := [bL], n := 224, nx := 1000, marks := [] }
def R_c1 : Lay := { keys := [1], ks := [.p 0 0 0 0], bs := [bL], n := 224, nx := 1000, marks := [] }
def Rf_c : Lay := { keys := [2], ks := [.d cI], bs := [], n := 224, nx := 1000, marks := [] }
def E_c1 : XE → Lay := fun e => match e with | .ret => Rf_c | _ => R_c1
def hd_c1 (x : SKTs kLw) (i : Int) : L_c1.T := (((), i, ()), (x, ()))
def rt_c1 : Left' E_c1 := ⟨.ret, ((2, ()), ())⟩
def ex_c1 (x : SKTs kLw) : Left' E_c1 := ⟨.exit 0, (((), ()), (x, ()))⟩
def etaH (h : TCT cHoop) : TCT cHoop := (h.1, h.2.1, h.2.2.1, h.2.2.2.1, h.2.2.2.2.1, ())
def hsX (x : SKTs kLw) : List (TCT cHoop) := x.2.2.2.2.1
def csX (x : SKTs kLw) : List (TCT cCell) := x.2.2.2.2.2.2.2.2.2.2.1
def st_c1 (g : L_c1.T) : Tree (L_c1.T ⊕ Left' E_c1) := bif decide (g.1.2.1 < ((hsX g.2.1).length : Int)) then bif decide (0 ≤ g.1.2.1 ∧ g.1.2.1 < ((hsX g.2.1).length : Int)) then
  bif !hoopB (etaH (getA (hsX g.2.1) (Int.toNat g.1.2.1) (dflt cHoop))) then .leaf (.inr rt_c1) else .leaf (.inl (hd_c1 g.2.1 (W64 (g.1.2.1 + 1)))) else .fail else .leaf (.inr (ex_c1 g.2.1))
def fu_c1 (g : L_c1.T) : Nat := (hsX g.2.1).length + 1
theorem l_c1 : LoopOk Tryz.prog 42 lb_c1 (loopSum L_c1 E_c1 (finX [.ret, .exit 0] st_c1 fu_c1)) := loopOk_x0 X_rc0_ok 7 _ L_c1 E_c1 (fun e => by cases e <;> exact Nat.le_refl _) [.ret, .exit 0] st_c1 fu_c1 (fun g => by kernel_rfl)
def L_c2 : Lay := { keys := [1, 4], ks := [.p 0 0 0 0, .d cI], bs := [bL], n := 224, nx := 1000, marks := [] }
def hd_c2 (x : SKTs kLw) (i : Int) : L_c2.T := (((), i, ()), (x, ()))
def ex_c2 (x : SKTs kLw) : Left' E_c1 := ⟨.exit 2, (((), ()), (x, ()))⟩
def st_c2 (g : L_c2.T) : Tree (L_c2.T ⊕ Left' E_c1) := bif decide (g.1.2.1 < ((csX g.2.1).length : Int)) then bif decide (0 ≤ g.1.2.1 ∧ g.1.2.1 < ((csX g.2.1).length : Int)) then
  bif !cellB (getA (csX g.2.1) (Int.toNat g.1.2.1) (dflt cCell)) then .leaf (.inr rt_c1) else .leaf (.inl (hd_c2 g.2.1 (W64 (g.1.2.1 + 1)))) else .fail else .leaf (.inr (ex_c2 g.2.1))
def fu_c2 (g : L_c2.T) : Nat := (csX g.2.1).length + 1
theorem l_c2 : LoopOk Tryz.prog 42 lb_c2 (loopSum L_c2 E_c1 (finX [.ret, .exit 2] st_c2 fu_c2)) := loopOk_x0 X_rc0_ok 7 _ L_c2 E_c1 (fun e => by cases e <;> exact Nat.le_refl _) [.ret, .exit 2] st_c2 fu_c2 (fun g => by kernel_rfl)
end St
end V
end Go.Proofs.YtkiaifmbbnnliaaGreat
namespace Go.Proofs.YtkiaifmbbnnliaaGreat
open Go.RowKit
namespace V
namespace St
def L_c4 : Lay := { keys := [1, 5, 6, 7], ks := [.p 0 0 0 0, .d (.sl cDisc), .d cI, .d cI], bs := [bL], n := 224, nx := 2000, marks := [] }
def R_c4 : Lay := { keys := [1, 5, 6], ks := [.p 0 0 0 0, .d (.sl cDisc), .d cI], bs := [bL], n := 224, nx := 2000, marks := [] }
def Rf_c4 : Lay := { keys := [2], ks := [.d cI], bs := [], n := 224, nx := 2000, marks := [] }
def E_c4 : XE → Lay := fun e => match e with | .ret => Rf_c4 | _ => R_c4
def L_c3 : Lay := { keys := [1, 5, 6], ks := [.p 0 0 0 0, .d (.sl cDisc), .d cI], bs := [bL], n := 224, nx := 1000, marks := [] }
def R_c3 : Lay := { keys := [], ks := [], bs := [], n := 224, nx := 2000, marks := [] }
def E_c3 : XE → Lay := fun e => match e with | .ret => Rf_c4 | _ => R_c3
def sqR (a b : TCT cDisc) : Int := W64 (W64 (W64 (a.1.1 - b.1.1) * W64 (a.1.1 - b.1.1)) + W64 (W64 (a.1.2.1 - b.1.2.1) * W64 (a.1.2.1 - b.1.2.1)))
def touR (d o : TCT cDisc) : Bool := decide (sqR d o < srD d o)
def inP {β : Type} (p : List (TCT cDisc)) (i : Int) (k : Tree β) : Tree β := bif decide (0 ≤ i ∧ i < (p.length : Int)) then k else .fail
theorem inP_ok {β : Type} {p : List (TCT cDisc)} {i : Int} {k : Tree β} (h : 0 ≤ i ∧ i < (p.length : Int)) : inP p i k = k := by unfold inP; rw [decide_eq_true h]; rfl
def gD (p : List (TCT cDisc)) (i : Int) : TCT cDisc := getA p (Int.toNat i) (dflt cDisc)
def hd_c4 (x : SKTs kLw) (p : List (TCT cDisc)) (i k : Int) : L_c4.T := (((), p, i, k, ()), (x, ()))
def rt_c4 : Left' E_c4 := ⟨.ret, ((2, ()), ())⟩
def ex_c4 (x : SKTs kLw) (p : List (TCT cDisc)) (i : Int) : Left' E_c4 := ⟨.exit 6, (((), p, i, ()), (x, ()))⟩
def st_c4' (x : SKTs kLw) (p : List (TCT cDisc)) (i k : Int) : Tree (L_c4.T ⊕ Left' E_c4) := bif decide (k < i) then
  inP p i (inP p k (inP p i (inP p k (inP p i (inP p k (inP p i (inP p k (bif touR (gD p i) (gD p k) then .leaf (.inr rt_c4) else .leaf (.inl (hd_c4 x p i (W64 (k + 1)))))))))))) else .leaf (.inr (ex_c4 x p i))
def st_c4 (g : L_c4.T) : Tree (L_c4.T ⊕ Left' E_c4) := st_c4' g.2.1 g.1.2.1 g.1.2.2.1 g.1.2.2.2.1
def fu_c4 (g : L_c4.T) : Nat := (List.take (Int.toNat g.1.2.2.1) (g.1.2.1 : List (TCT cDisc))).length + 1
theorem l_c4 : LoopOk Tryz.prog 42 lb_c4 (loopSum L_c4 E_c4 (finX [.ret, .exit 6] st_c4 fu_c4)) := loopOk_x0 X_rc0_ok 7 _ L_c4 E_c4 (fun e => by cases e <;> exact Nat.le_refl _) [.ret, .exit 6] st_c4 fu_c4 (fun g => by kernel_rfl)
theorem y_c4_eq (x : SKTs kLw) (p : List (TCT cDisc)) (i : Nat) (hi : i < p.length) (hp : (p.length : Int) ≤ maxK .i64) :
    iter st_c4 ((p.take i).length + 1) (hd_c4 x p i 0) = some (bif (p.take i).any (touR p[i]) then rt_c4 else ex_c4 x p i) := by
  have ht : (p.take i).length = i := by rw [List.length_take]; omega
  have hp' : (p.length : Int) ≤ 9223372036854775807 := hp
  refine iter_bad (p.take i) (dflt cDisc) (fun k => hd_c4 x p i k) (touR p[i]) rt_c4 (ex_c4 x p i) (by rw [ht]; show (i : Int) ≤ 9223372036854775807; omega) fun k => ?_
  show st_c4' x p i k = _
  unfold st_c4'
  rw [ht]
  by_cases hk : k < (i : Int)
  · rw [decide_eq_true hk, cond_true, cond_true]
    by_cases h0 : 0 ≤ k
    · have hki : 0 ≤ k ∧ k < (p.length : Int) := by omega
      have hii : 0 ≤ (i : Int) ∧ (i : Int) < (p.length : Int) := by omega
      have e1 : gD p (i : Int) = p[i] := by unfold gD; rw [show Int.toNat (i : Int) = i by omega, getA_lt hi]
      have e2 : gD p k = getA (p.take i) (Int.toNat k) (dflt cDisc) := by
        unfold gD
        have h1 : Int.toNat k < p.length := by omega
        have h2 : Int.toNat k < (p.take i).length := by omega
        rw [getA_lt h1, getA_lt h2, List.getElem_take]
      rw [inP_ok hii, inP_ok hki, inP_ok hii, inP_ok hki, inP_ok hii, inP_ok hki, inP_ok hii, inP_ok hki, e1, e2, decide_eq_true (show 0 ≤ k ∧ k < (i : Int) by omega)]
      rfl
    · have hii : 0 ≤ (i : Int) ∧ (i : Int) < (p.length : Int) := by omega
      rw [inP_ok hii, decide_eq_false (show ¬ (0 ≤ k ∧ k < (i : Int)) by omega)]
      unfold inP
      rw [decide_eq_false (show ¬ (0 ≤ k ∧ k < (p.length : Int)) by omega)]
      rfl
  · rw [decide_eq_false hk]; rfl
def hd_c3 (x : SKTs kLw) (p : List (TCT cDisc)) (i : Int) : L_c3.T := (((), p, i, ()), (x, ()))
def rt_c3 (e : Int) : Left' E_c3 := ⟨.ret, ((e, ()), ())⟩
def ex_c3 : Left' E_c3 := ⟨.exit 4, ((), ())⟩
abbrev TC3 := Tree (L_c3.T ⊕ Left' E_c3)
def y_c4 (x : SKTs kLw) (p : List (TCT cDisc)) (i : Int) : Option (Left' E_c4) := iter st_c4 ((p.take (Int.toNat i)).length + 1) (hd_c4 x p i 0)
def nx_c3 (r : R_c4.T) : L_c3.T := hd_c3 r.2.1 r.1.2.1 (W64 (r.1.2.2.1 + 1))
def ct_c3 (y : Option (Left' E_c4)) : TC3 := bif isE .ret y then .leaf (.inr (rt_c3 (valE .ret y).1.1)) else bif isE (.exit 6) y then .leaf (.inl (nx_c3 (valE (.exit 6) y))) else .fail
def bd_c3 (x : SKTs kLw) (p : List (TCT cDisc)) (i : Int) (d : TCT cDisc) : TC3 :=
  inP p i (inP p i (bif !inR d.1.1 d.2.1 (W64 (x.2.1 - d.2.1)) then .leaf (.inr (rt_c3 2)) else inP p i (inP p i (inP p i (bif !inR d.1.2.1 d.2.1 (W64 (x.2.2.1 - d.2.1)) then .leaf (.inr (rt_c3 2)) else ct_c3 (y_c4 x p i))))))
def st_c3 (g : L_c3.T) : TC3 := bif decide (g.1.2.2.1 < ((g.1.2.1 : List (TCT cDisc)).length : Int)) then bif decide (0 ≤ g.1.2.2.1 ∧ g.1.2.2.1 < ((g.1.2.1 : List (TCT cDisc)).length : Int)) then bd_c3 g.2.1 g.1.2.1 g.1.2.2.1 (gD g.1.2.1 g.1.2.2.1) else .fail else .leaf (.inr ex_c3)
def fu_c3 (g : L_c3.T) : Nat := (g.1.2.1 : List (TCT cDisc)).length + 1
def Lt_c3 : LoopT := fun k => bif Nat.beq k 24 then some (loopSum L_c4 E_c4 (finX [.ret, .exit 6] st_c4 fu_c4)) else none
theorem e_c3 (g : L_c3.T) : evC X_rc0.P (evFn X_rc0 7) X_rc0.pures 42 X_rc0.u Lt_c3 lb_c3 (L_c3.of g) (stepOut L_c3 E_c3) = st_c3 g := by kernel_rfl
theorem loops_c3 : loopsOf lb_c3 = [lb_c4] := by kernel_rfl
theorem key_c4 : keyOf lb_c4 = 24 := by kernel_rfl
theorem l_c3 : LoopOk Tryz.prog 42 lb_c3 (loopSum L_c3 E_c3 (finX [.ret, .exit 4] st_c3 fu_c3)) :=
  loopOk_x X_rc0_ok 7 _ Lt_c3 (fun d hd f hf => by
    rw [loops_c3, List.mem_singleton] at hd
    subst hd
    rw [key_c4] at hf
    cases hf
    exact l_c4) L_c3 E_c3 (fun e => by cases e <;> exact (by decide : (1000 : Nat) ≤ 2000)) [.ret, .exit 4] st_c3 fu_c3 e_c3
end St
end V
end Go.Proofs.YtkiaifmbbnnliaaGreat
namespace Go.Proofs.YtkiaifmbbnnliaaGreat
open Go.RowKit
namespace V
namespace St
theorem key_c1 : keyOf lb_c1 = 6 := by kernel_rfl
theorem key_c2 : keyOf lb_c2 = 13 := by kernel_rfl
theorem key_c3 : keyOf lb_c3 = 19 := by kernel_rfl
theorem loops_rc : loopsOf (bodyOf Tryz.f42) = [lb_c1, lb_c2, lb_c3, lb_c4] := by kernel_rfl
noncomputable def lps_rc : List ((Nat × Nat) × (St → Tree (XE × St))) := [((42, 6), loopSum L_c1 E_c1 (finX [.ret, .exit 0] st_c1 fu_c1)), ((42, 13), loopSum L_c2 E_c1 (finX [.ret, .exit 2] st_c2 fu_c2)), ((42, 19), loopSum L_c3 E_c3 (finX [.ret, .exit 4] st_c3 fu_c3))]
noncomputable def X_rc : Ctx := ctxL Tryz.prog plRc [(42, Tryz.f42)] lps_rc
theorem X_rc_ok : CtxOk X_rc := ctxL_ok mixed puRc (fns_cons is_rLaw fns_nil) (fun p hp d hd g hg => by
  rw [List.mem_singleton] at hp
  subst hp
  have hd : d ∈ loopsOf (bodyOf Tryz.f42) := hd
  rw [loops_rc] at hd
  simp only [List.mem_cons, List.not_mem_nil, or_false] at hd
  have hg : assoc2 lps_rc 42 (keyOf d) = some g := hg
  rcases hd with rfl | rfl | rfl | rfl
  · rw [key_c1] at hg
    cases hg
    exact l_c1
  · rw [key_c2] at hg
    cases hg
    exact l_c2
  · rw [key_c3] at hg
    cases hg
    exact l_c3
  · rw [key_c4] at hg
    cases hg)
def y_c1 (x : SKTs kLw) : Option (Left' E_c1) := iter st_c1 ((hsX x).length + 1) (hd_c1 x 0)
def y_c2 (x : SKTs kLw) : Option (Left' E_c1) := iter st_c2 ((csX x).length + 1) (hd_c2 x 0)
def y_c3 (x : SKTs kLw) (p : List (TCT cDisc)) : Option (Left' E_c3) := iter st_c3 (p.length + 1) (hd_c3 x p 0)
def t3_rc (r : R_c1.T) : TEr := bif decide ((hsX r.2.1).length ≤ 1000) then
  bif isE .ret (y_c3 r.2.1 (postsF (lwOf r.2.1))) then .leaf ((valE .ret (y_c3 r.2.1 (postsF (lwOf r.2.1)))).1.1, ()) else bif isE (.exit 4) (y_c3 r.2.1 (postsF (lwOf r.2.1))) then .leaf (0, ()) else .fail else .fail
def t2_rc (r : R_c1.T) : TEr := er (!inR (pegL (lwOf r.2.1)).2.1 1 8192) 2 (er (!inR (pegL (lwOf r.2.1)).1.1 0 4194304) 2 (er (!inR (pegL (lwOf r.2.1)).1.2.1 0 4194304) 2 (
  er (decide (nxL (lwOf r.2.1) < 1)) 2 (er (decide (nxL (lwOf r.2.1) > 16)) 2 (er (decide (nyL (lwOf r.2.1) < 1)) 2 (er (decide (nyL (lwOf r.2.1) > 16)) 2 (er (((csX r.2.1).length : Int) != W64 (nxL (lwOf r.2.1) * nyL (lwOf r.2.1))) 2 (
  bif isE .ret (y_c2 r.2.1) then .leaf ((valE .ret (y_c2 r.2.1)).1.1, ()) else bif isE (.exit 2) (y_c2 r.2.1) then t3_rc (valE (.exit 2) (y_c2 r.2.1)) else .fail))))))))
def T_rc (l : TCT cLawn) : TEr :=
  er (decide (((hoopsL l).length : Int) < 1)) 6 (er (decide (((hoopsL l).length : Int) > 12)) 6 (er (decide (((cellsL l).length : Int) > 256)) 6 (
  bif decide ((l.1.size : Int) ≤ maxK .i64) then er (!namedB l.1) 2 (er (!inR l.2.1 65536 4194304) 2 (er (!inR l.2.2.1 65536 4194304) 2 (er (!inR l.2.2.2.1 0 (W64 (Int.tdiv (min l.2.1 l.2.2.1) 4))) 2 (
    bif isE .ret (y_c1 (lwTo l)) then .leaf ((valE .ret (y_c1 (lwTo l))).1.1, ()) else bif isE (.exit 0) (y_c1 (lwTo l)) then t2_rc (valE (.exit 0) (y_c1 (lwTo l))) else .fail))))
  else .fail)))
theorem T_rc_eq (x : TCTs [cLawn]) : evFn X_rc 7 (.fn 42) (encAs [cLawn] x) noHeap 0 (outK Tryz.prog [cI]) = T_rc x.1 := by kernel_rfl
end St
end V
end Go.Proofs.YtkiaifmbbnnliaaGreat
namespace Go.Proofs.YtkiaifmbbnnliaaGreat
open Go.RowKit
namespace V
namespace St
def apR (w l : Int) (p : List (TCT cDisc)) : Bool := allI (fun i d => insB w l d && !(p.take i).any (touR d)) 0 p
theorem y_c1_eq (x : SKTs kLw) (hl : ((hsX x).length : Int) ≤ maxK .i64) : y_c1 x = some (bif (hsX x).any (fun h => !hoopB h) then rt_c1 else ex_c1 x) :=
  iter_bad (hsX x) (dflt cHoop) (hd_c1 x) (fun h => !hoopB h) rt_c1 (ex_c1 x) hl (fun _ => rfl)
theorem y_c2_eq (x : SKTs kLw) (hl : ((csX x).length : Int) ≤ maxK .i64) : y_c2 x = some (bif (csX x).any (fun h => !cellB h) then rt_c1 else ex_c2 x) :=
  iter_bad (csX x) (dflt cCell) (hd_c2 x) (fun h => !cellB h) rt_c1 (ex_c2 x) hl (fun _ => rfl)
theorem y_c3_eq (x : SKTs kLw) (p : List (TCT cDisc)) (hp : (p.length : Int) ≤ maxK .i64) : y_c3 x p = some (bif apR x.2.1 x.2.2.1 p then ex_c3 else rt_c3 2) := by
  have hp' : (p.length : Int) ≤ 9223372036854775807 := hp
  refine iter_all p (dflt cDisc) (hd_c3 x p) (fun i d => insB x.2.1 x.2.2.1 d && !(p.take i).any (touR d)) (bd_c3 x p) (rt_c3 2) ex_c3 hp (fun _ => rfl) fun i hi => ?_
  have hii : 0 ≤ (i : Int) ∧ (i : Int) < (p.length : Int) := by omega
  unfold bd_c3 insB
  rw [inP_ok hii, inP_ok hii, inP_ok hii, inP_ok hii, inP_ok hii]
  cases inR p[i].1.1 p[i].2.1 (W64 (x.2.1 - p[i].2.1)) with
  | false => rfl
  | true =>
    cases inR p[i].1.2.1 p[i].2.1 (W64 (x.2.2.1 - p[i].2.1)) with
    | false => rfl
    | true =>
      have hy : y_c4 x p (i : Int) = some (bif (p.take i).any (touR p[i]) then rt_c4 else ex_c4 x p i) := by
        unfold y_c4
        rw [show Int.toNat (i : Int) = i by omega]
        exact y_c4_eq x p i hi hp
      simp only [Bool.not_true, cond_false, Bool.true_and]
      rw [hy]
      cases (p.take i).any (touR p[i]) with
      | true => rfl
      | false =>
        show (Tree.leaf (Sum.inl (hd_c3 x p (W64 ((i : Int) + 1)))) : TC3).run = _
        rw [W64_id (n := (i : Int) + 1) (by omega) (by omega)]
        rfl
def pegB (l : TCT cLawn) : Bool := inR (pegL l).2.1 1 8192 && (inR (pegL l).1.1 0 4194304 && inR (pegL l).1.2.1 0 4194304)
def okR (l : TCT cLawn) : Bool := dimB l && ((hoopsL l).all hoopB && (pegB l && (numB l && ((cellsL l).all cellB && apR l.2.1 l.2.2.1 (postsF l)))))
def lawR (l : TCT cLawn) : Int := bif manyB l then 6 else bif okR l then 0 else 2
theorem posts_len {l : TCT cLawn} : (postsF l).length = 2 * (hoopsL l).length + 1 := by
  unfold postsF
  rw [List.length_append, flat_len]
  rfl
theorem t3_ok {l : TCT cLawn} (h12 : (hoopsL l).length ≤ 1000) : (t3_rc (((), ()), (lwTo l, ()))).sat (fun y => y = ((bif apR l.2.1 l.2.2.1 (postsF l) then (0 : Int) else 2), ())) := by
  unfold t3_rc
  have e : lwOf (((((), ()), (lwTo l, ())) : R_c1.T).2.1) = l := rfl
  have e2 : hsX (((((), ()), (lwTo l, ())) : R_c1.T).2.1) = hoopsL l := rfl
  have hy : y_c3 (((((), ()), (lwTo l, ())) : R_c1.T).2.1) (postsF l) = some (bif apR l.2.1 l.2.2.1 (postsF l) then ex_c3 else rt_c3 2) := y_c3_eq (lwTo l) (postsF l) (by rw [posts_len]; simp only [maxK]; omega)
  rw [e, e2, decide_eq_true h12, hy]
  cases apR l.2.1 l.2.2.1 (postsF l) <;> exact rfl
theorem er_step {a b : Bool} {k : TEr} (h : k.sat (fun y => y = ((bif b then (0 : Int) else 2), ()))) : (er (!a) 2 k).sat (fun y => y = ((bif a && b then (0 : Int) else 2), ())) := by
  cases a with
  | true => exact h
  | false => exact rfl
theorem er_step' {a b : Bool} {k : TEr} (h : k.sat (fun y => y = ((bif b then (0 : Int) else 2), ()))) : (er a 2 k).sat (fun y => y = ((bif !a && b then (0 : Int) else 2), ())) := by
  cases a with
  | true => exact rfl
  | false => exact h
theorem t2_ok {l : TCT cLawn} (h12 : (hoopsL l).length ≤ 1000) (hc : ((cellsL l).length : Int) ≤ maxK .i64) : (t2_rc (((), ()), (lwTo l, ()))).sat (fun y => y = ((bif pegB l && (numB l && ((cellsL l).all cellB && apR l.2.1 l.2.2.1 (postsF l))) then (0 : Int) else 2), ())) := by
  unfold t2_rc pegB numB
  have e : lwOf (((((), ()), (lwTo l, ())) : R_c1.T).2.1) = l := rfl
  have e2 : csX (((((), ()), (lwTo l, ())) : R_c1.T).2.1) = cellsL l := rfl
  rw [e, e2]
  simp only [Bool.and_assoc]
  refine er_step (er_step (er_step (er_step' (er_step' (er_step' (er_step' (er_step' ?_)))))))
  rw [y_c2_eq (lwTo l) hc]
  have hq : (csX (lwTo l)).any (fun h => !cellB h) = !(cellsL l).all cellB := any_not cellB _
  rw [hq]
  cases (cellsL l).all cellB with
  | false => exact rfl
  | true => exact t3_ok h12
theorem T_rc_ok {l : TCT cLawn} (hs : (l.1.size : Int) ≤ maxK .i64) (hh : ((hoopsL l).length : Int) ≤ maxK .i64) (hc : ((cellsL l).length : Int) ≤ maxK .i64) : (T_rc l).sat (fun y => y = (lawR l, ())) := by
  unfold T_rc lawR
  rw [← er_or, ← er_or, Bool.or_assoc]
  show (er (manyB l) 6 _).sat _
  cases hm : manyB l with
  | true => exact rfl
  | false =>
    have h12 : (hoopsL l).length ≤ 1000 := by
      unfold manyB at hm
      simp only [Bool.or_eq_false_iff, decide_eq_false_iff_not] at hm
      omega
    rw [decide_eq_true hs]
    show (er (!namedB l.1) 2 _).sat (fun y => y = ((bif okR l then (0 : Int) else 2), ()))
    unfold okR dimB
    simp only [Bool.and_assoc]
    refine er_step (er_step (er_step (er_step ?_)))
    rw [y_c1_eq (lwTo l) hh]
    have hq : (hsX (lwTo l)).any (fun h => !hoopB h) = !(hoopsL l).all hoopB := any_not hoopB _
    rw [hq]
    cases (hoopsL l).all hoopB with
    | false => exact rfl
    | true => exact t2_ok h12 hc
end St
end V
end Go.Proofs.YtkiaifmbbnnliaaGreat
namespace Go.Proofs.YtkiaifmbbnnliaaGreat
open Go.RowKit
namespace V
namespace St
theorem inR_iff {x lo hi : Int} : inR x lo hi = true ↔ lo ≤ x ∧ x ≤ hi := by unfold inR; simp only [Bool.and_eq_true, decide_eq_true_eq]
theorem allI_eq {α : Type} {p : List α} {ok1 ok2 : Nat → α → Bool} (ins : α → Bool) (h : ∀ (i : Nat) (hi : i < p.length), (∀ o ∈ p.take i, ins o = true) → ok1 i p[i] = ok2 i p[i]) (h1 : ∀ i x, ok1 i x = true → ins x = true) :
    ∀ (k i : Nat), i + k = p.length → (∀ o ∈ p.take i, ins o = true) → allI ok1 i (p.drop i) = allI ok2 i (p.drop i)
  | 0, i, hk, _ => by
    rw [List.drop_eq_nil_of_le (by omega)]; rfl
  | k + 1, i, hk, hp => by
    have hi : i < p.length := by omega
    rw [List.drop_eq_getElem_cons hi]
    simp only [allI]
    rw [← h i hi hp]
    cases ho : ok1 i p[i] with
    | false => rfl
    | true =>
      rw [Bool.true_and, Bool.true_and]
      refine allI_eq ins h h1 k (i + 1) (by omega) fun o hm => ?_
      rw [List.take_succ_eq_append_getElem hi, List.mem_append, List.mem_singleton] at hm
      rcases hm with hm | rfl
      · exact hp o hm
      · exact h1 i _ ho
theorem allI_mem {α : Type} {ok : Nat → α → Bool} : ∀ (l : List α) (i : Nat), allI ok i l = true → ∀ x ∈ l, ∃ j, ok j x = true
  | y :: l, i, h, x, hx => by
    simp only [allI, Bool.and_eq_true] at h
    rcases List.mem_cons.1 hx with rfl | hx
    · exact ⟨i, h.1⟩
    · exact allI_mem l (i + 1) h.2 x hx
structure On (d : TCT cDisc) : Prop where
  x : 0 ≤ d.1.1 ∧ d.1.1 ≤ 4194304
  y : 0 ≤ d.1.2.1 ∧ d.1.2.1 ≤ 4194304
  r : 1 ≤ d.2.1 ∧ d.2.1 ≤ 8192
theorem ins_int {x y r w l : Int} (hw : 0 ≤ w ∧ w ≤ 4194304) (hl : 0 ≤ l ∧ l ≤ 4194304) (hr : 1 ≤ r ∧ r ≤ 8192) (h : (r ≤ x ∧ x ≤ W64 (w - r)) ∧ r ≤ y ∧ y ≤ W64 (l - r)) : (0 ≤ x ∧ x ≤ 4194304) ∧ 0 ≤ y ∧ y ≤ 4194304 := by
  rw [W64_id (n := w - r) (by omega) (by omega), W64_id (n := l - r) (by omega) (by omega)] at h
  omega
theorem on_of {w l : Int} (hw : 0 ≤ w ∧ w ≤ 4194304) (hl : 0 ≤ l ∧ l ≤ 4194304) {d : TCT cDisc} (hr : 1 ≤ d.2.1 ∧ d.2.1 ≤ 8192) (h : insB w l d = true) : On d := by
  unfold insB at h
  simp only [Bool.and_eq_true, inR_iff] at h
  obtain ⟨h1, h2⟩ := ins_int hw hl hr h
  exact ⟨h1, h2, hr⟩
theorem cd_int {x y r : Int} (hx : 0 ≤ x ∧ x ≤ 4194304) (hy : 0 ≤ y ∧ y ≤ 4194304) (hr : 1 ≤ r ∧ r ≤ 8192) : u_cd x y r = 0 := by
  unfold u_cd u_cdOk fpt outB
  rw [decide_eq_true (show -4194304 ≤ x ∧ x ≤ 4194304 ∧ -4194304 ≤ y ∧ y ≤ 4194304 by omega), decide_eq_false (show ¬ r < 1 by omega), decide_eq_false (show ¬ 65536 < r by omega)]
  rfl
theorem sq_int {a b : Int} (ha : 0 ≤ a ∧ a ≤ 4194304) (hb : 0 ≤ b ∧ b ≤ 4194304) : W64 (b - a) * W64 (b - a) = W64 (a - b) * W64 (a - b) := by
  rw [W64_id (n := b - a) (by omega) (by omega), W64_id (n := a - b) (by omega) (by omega)]
  grind
theorem tou_eq {d o : TCT cDisc} (hd : On d) (ho : On o) : touB d o = touR d o := by
  have e : sqD d o = sqR d o := by
    unfold sqD sqR
    rw [sq_int hd.x ho.x, sq_int hd.y ho.y]
  have c1 : cdE d = 0 := cd_int hd.x hd.y hd.r
  have c2 : cdE o = 0 := cd_int ho.x ho.y ho.r
  unfold touB touR touN
  rw [c1, c2, e]
  show decide (cmpI (sqR d o) (srD d o) < 0) = _
  unfold cmpI
  by_cases h : sqR d o < srD d o
  · rw [decide_eq_true h]; rfl
  · rw [decide_eq_false h, cond_false]
    cases decide (sqR d o > srD d o) <;> rfl
theorem any_congr {α : Type} {p q : α → Bool} : ∀ {l : List α}, (∀ x ∈ l, p x = q x) → l.any p = l.any q
  | [], _ => rfl
  | x :: l, h => by rw [List.any_cons, List.any_cons, h x (List.mem_cons_self ..), any_congr fun y hy => h y (List.mem_cons_of_mem _ hy)]
theorem ap_eq {w l : Int} (hw : 0 ≤ w ∧ w ≤ 4194304) (hl : 0 ≤ l ∧ l ≤ 4194304) {p : List (TCT cDisc)} (hr : ∀ d ∈ p, 1 ≤ d.2.1 ∧ d.2.1 ≤ 8192) : apF w l p = apR w l p := by
  have key := allI_eq (p := p) (ok1 := fun i d => insB w l d && !(p.take i).any (touB d)) (ok2 := fun i d => insB w l d && !(p.take i).any (touR d)) (insB w l)
    (fun i hi hp => by
      cases hi' : insB w l p[i] with
      | false => rfl
      | true =>
        have hd := on_of hw hl (hr _ (List.getElem_mem hi)) hi'
        rw [any_congr fun o ho => tou_eq hd (on_of hw hl (hr o (List.mem_of_mem_take ho)) (hp o ho))])
    (fun i x h => by simp only [Bool.and_eq_true] at h; exact h.1) p.length 0 (by omega) (fun o ho => by rw [List.take_zero] at ho; cases ho)
  rw [List.drop_zero] at key
  exact key
theorem w2_r {h : TCT cHoop} {d : TCT cDisc} (hd : d ∈ w2 h) : d.2.1 = h.2.2.2.1 := by
  unfold w2 at hd
  cases hb : h.2.2.2.2.1 with
  | true =>
    rw [hb] at hd
    have hd : d ∈ [disc h.1 (W64 (h.2.1 - dW h)) h.2.2.2.1, disc h.1 (W64 (h.2.1 + dW h)) h.2.2.2.1] := hd
    rcases List.mem_cons.1 hd with rfl | hd
    · rfl
    · rw [List.mem_singleton] at hd; subst hd; rfl
  | false =>
    rw [hb] at hd
    have hd : d ∈ [disc (W64 (h.1 - dW h)) h.2.1 h.2.2.2.1, disc (W64 (h.1 + dW h)) h.2.1 h.2.2.2.1] := hd
    rcases List.mem_cons.1 hd with rfl | hd
    · rfl
    · rw [List.mem_singleton] at hd; subst hd; rfl
theorem posts_r {l : TCT cLawn} (hh : (hoopsL l).all hoopB = true) (hp : inR (pegL l).2.1 1 8192 = true) : ∀ d ∈ postsF l, 1 ≤ d.2.1 ∧ d.2.1 ≤ 8192 := by
  intro d hd
  unfold postsF at hd
  rw [List.mem_append, List.mem_singleton, List.mem_flatMap] at hd
  rcases hd with ⟨h, hm, hd⟩ | rfl
  · have := List.all_eq_true.1 hh h hm
    unfold hoopB at this
    simp only [Bool.and_eq_true, inR_iff] at this
    rw [w2_r hd]
    exact this.2.2.2.2
  · exact inR_iff.1 hp
theorem law_same (l : TCT cLawn) : lawR l = lawE l := by
  unfold lawR lawE
  congr 2
  unfold okR okL
  cases hd : dimB l with
  | false => rfl
  | true =>
    have hd' := hd
    unfold dimB at hd'
    simp only [Bool.and_eq_true, inR_iff] at hd'
    obtain ⟨_, ⟨w1, w2'⟩, ⟨l1, l2⟩, _⟩ := hd'
    have hw : 0 ≤ l.2.1 ∧ l.2.1 ≤ 4194304 := ⟨Int.le_trans (by decide) w1, w2'⟩
    have hl : 0 ≤ l.2.2.1 ∧ l.2.2.1 ≤ 4194304 := ⟨Int.le_trans (by decide) l1, l2⟩
    unfold pegB
    cases hh : (hoopsL l).all hoopB with
    | false => cases inR (pegL l).2.1 1 8192 <;> cases numB l <;> rfl
    | true =>
      cases hp : inR (pegL l).2.1 1 8192 with
      | false => rfl
      | true =>
        have hr := posts_r hh hp
        rw [← ap_eq hw hl hr]
        cases ha : apF l.2.1 l.2.2.1 (postsF l) with
        | false => simp
        | true =>
          obtain ⟨j, hj⟩ := allI_mem (postsF l) 0 ha (pegL l) (by unfold postsF; simp)
          simp only [Bool.and_eq_true] at hj
          have on := on_of hw hl (inR_iff.1 hp) hj.1
          have e1 : inR (pegL l).1.1 0 4194304 = true := inR_iff.2 on.x
          have e2 : inR (pegL l).1.2.1 0 4194304 = true := inR_iff.2 on.y
          rw [e1, e2]
          simp
theorem q_rLaw : PureOk Tryz.prog 42 s_law := q_by X_rc_ok 7 (fun x => T_rc x.1) T_rc_eq fun x hok hw => by
  rw [← law_same]
  exact T_rc_ok (of_decide_eq_true hok) (wfl_len hw.1.2.2.2.2.1) (wfl_len hw.1.2.2.2.2.2.2.2.2.1)
end St
end V
end Go.Proofs.YtkiaifmbbnnliaaGreat
namespace Go.Proofs.YtkiaifmbbnnliaaGreat
open Go.RowKit
namespace V
namespace St
theorem is_Posts : FnIs Tryz.prog (105, Tryz.f105) := ⟨Tryz.func105, by kernel_rfl, by kernel_rfl⟩
def plPs : List (Nat × PureT) := [(75, s_law), (140, s_posts), (42, s_law), (92, s_posts)]
theorem puPs : PuOk Tryz.prog plPs := puOk_cons is_lCheck.plain q_lCheck (puOk_cons is_lposts.plain q_posts (puOk_cons is_rLaw.plain q_rLaw (puOk_cons is_rposts.plain q_rposts puOk_nil)))
def postsV (l : TCT cLawn) : List (TCT cDisc) := bif lawE l == 0 then postsF l else []
abbrev s_Posts : PureT := spec [cLawn] [.sl cDisc, cI] (fun x => decide ((x.1.1.size : Int) ≤ maxK .i64)) (fun x => (postsV x.1, lawE x.1, ()))
abbrev TPs := Tree (TCTs [.sl cDisc, cI])
def szT {β : Type} (l : TCT cLawn) (k : Tree β) : Tree β := bif decide ((l.1.size : Int) ≤ maxK .i64) then k else .fail
theorem szT_ok {β : Type} {l : TCT cLawn} {k : Tree β} (h : (l.1.size : Int) ≤ maxK .i64) : szT l k = k := by unfold szT; rw [decide_eq_true h]; rfl
def gd_Ps (l : TCT cLawn) : TPs := bif decide ((hoopsL l).length ≤ 1000) then .leaf (postsF l, 0, ()) else .fail
def T_Ps (l : TCT cLawn) : TPs := szT l (bif lawE l != 0 then .leaf ([], lawE l, ()) else gd_Ps l)
theorem hoops_ok {l : TCT cLawn} (h : lawE l = 0) : (hoopsL l).length ≤ 12 ∧ 1 ≤ (hoopsL l).length := by
  unfold lawE at h
  cases hm : manyB l with
  | true => rw [hm] at h; cases h
  | false =>
    unfold manyB at hm
    simp only [Bool.or_eq_false_iff, decide_eq_false_iff_not] at hm
    omega
theorem gd_Ps_ok {l : TCT cLawn} (h : lawE l = 0) : (gd_Ps l).sat (fun y => y = (postsV l, lawE l, ())) := by
  have := hoops_ok h
  unfold gd_Ps postsV
  rw [decide_eq_true (show (hoopsL l).length ≤ 1000 by omega), h]
  exact rfl
theorem Ps_ok {l : TCT cLawn} : (bif lawE l != 0 then .leaf ([], lawE l, ()) else gd_Ps l : TPs).sat (fun y => y = (postsV l, lawE l, ())) := by
  cases h : lawE l == 0 with
  | true =>
    have h' : lawE l = 0 := by simpa using h
    rw [show (lawE l != 0) = false by simp [h']]
    exact gd_Ps_ok h'
  | false =>
    rw [show (lawE l != 0) = true by simpa using h]
    unfold postsV
    rw [h]
    exact rfl
theorem q_Posts : PureOk Tryz.prog 105 s_Posts := q_by (ctx_ok mixed puPs (fns_cons is_Posts fns_nil)) 7 (fun x => T_Ps x.1) (fun x => by kernel_rfl) fun x hok _ => by
  show (T_Ps x.1).sat _
  unfold T_Ps
  rw [szT_ok (of_decide_eq_true hok)]
  exact Ps_ok
end St
end V
end Go.Proofs.YtkiaifmbbnnliaaGreat
namespace Go.Proofs.YtkiaifmbbnnliaaGreat
open Go.RowKit
namespace V
namespace St
theorem is_CellAt : FnIs Tryz.prog (160, Tryz.f160) := ⟨Tryz.func160, by kernel_rfl, by kernel_rfl⟩
theorem is_lchk : FnIs Tryz.prog (183, Tryz.f183) := ⟨Tryz.func183, by kernel_rfl, by kernel_rfl⟩
theorem is_lon : FnIs Tryz.prog (184, Tryz.f184) := ⟨Tryz.func184, by kernel_rfl, by kernel_rfl⟩
theorem is_rIs : FnIs Tryz.prog (74, Tryz.f74) := ⟨Tryz.func74, by kernel_rfl, by kernel_rfl⟩
def onB (l : TCT cLawn) (p : TCT cPt) : Bool := inR p.1 0 l.2.1 && inR p.2.1 0 l.2.2.1
def cellI (l : TCT cLawn) (p : TCT cPt) : Int := W64 (W64 (min (W64 (Int.tdiv (W64 (p.2.1 * nyL l)) l.2.2.1)) (W64 (nyL l - 1)) * nxL l) + min (W64 (Int.tdiv (W64 (p.1 * nxL l)) l.2.1)) (W64 (nxL l - 1)))
def etaC (c : TCT cCell) : TCT cCell := (c.1, c.2.1, c.2.2.1, ())
def zCe : TCT cCell := (0, 0, 0, ())
def oneE (l : TCT cLawn) (p : TCT cPt) : Int := bif lawE l != 0 then lawE l else bif fpt p.1 p.2.1 then 0 else 2
def cellE (l : TCT cLawn) (p : TCT cPt) : Int := bif oneE l p != 0 then oneE l p else bif onB l p then 0 else 5
def cellV (l : TCT cLawn) (p : TCT cPt) : TCT cCell := bif cellE l p == 0 then etaC (getA (cellsL l) (Int.toNat (cellI l p)) (dflt cCell)) else zCe
abbrev s_CellAt : PureT := spec [cLawn, cPt] [cCell, cI] (fun x => decide ((x.1.1.size : Int) ≤ maxK .i64)) (fun x => (((cellV x.1 x.2.1).1, (cellV x.1 x.2.1).2.1, (cellV x.1 x.2.1).2.2.1, ()), cellE x.1 x.2.1, ()))
abbrev TCe := Tree (TCTs [cCell, cI])
def bad_ce (e : Int) : TCe := .leaf (zCe, e, ())
def at_ce (l : TCT cLawn) (p : TCT cPt) : TCe := bif l.2.1 != 0 then bif l.2.2.1 != 0 then bif decide (0 ≤ cellI l p ∧ cellI l p < ((cellsL l).length : Int)) then .leaf (etaC (getA (cellsL l) (Int.toNat (cellI l p)) (dflt cCell)), 0, ()) else .fail else .fail else .fail
def on_ce (l : TCT cLawn) (p : TCT cPt) : TCe := bif inR p.1 0 l.2.1 then bif !inR p.2.1 0 l.2.2.1 then bad_ce 5 else at_ce l p else bad_ce 5
def T_ce (l : TCT cLawn) (p : TCT cPt) : TCe := szT l (bif lawE l != 0 then bif lawE l != 0 then bad_ce (lawE l) else on_ce l p else bif u_ck p.1 p.2.1 != 0 then bad_ce 2 else on_ce l p)
theorem T_ce_eq (x : TCTs [cLawn, cPt]) : evFn (ctxU 2 Tryz.prog ((50, s_Check) :: (132, s_inR) :: plPs) [(160, Tryz.f160), (183, Tryz.f183), (184, Tryz.f184)]) 7 (.fn 160) (encAs [cLawn, cPt] x) noHeap 0 (outK Tryz.prog [cCell, cI]) = T_ce x.1 x.2.1 := by kernel_rfl
theorem mul_le3 {a b c d : Int} (h0 : 0 ≤ a) (h1 : a ≤ c) (h2 : 0 ≤ b) (h3 : b ≤ d) : a * b ≤ c * d := Int.mul_le_mul h1 h3 h2 (by omega)
theorem cell_one {y ny l : Int} (hl : 1 ≤ l ∧ l ≤ 4194304) (hy : 0 ≤ y ∧ y ≤ l) (hn : 1 ≤ ny ∧ ny ≤ 16) : 0 ≤ min (W64 (Int.tdiv (W64 (y * ny)) l)) (W64 (ny - 1)) ∧ min (W64 (Int.tdiv (W64 (y * ny)) l)) (W64 (ny - 1)) ≤ ny - 1 := by
  have h1 : 0 ≤ y * ny := Int.mul_nonneg hy.1 (by omega)
  have h2 : y * ny ≤ 4194304 * 16 := mul_le3 hy.1 (by omega) (by omega) hn.2
  rw [W64_id (n := y * ny) (by omega) (by omega), Int.tdiv_eq_ediv_of_nonneg h1]
  have h3 := Int.ediv_nonneg h1 (show 0 ≤ l by omega)
  have h4 := Int.ediv_le_self l h1
  rw [W64_id (n := y * ny / l) (by omega) (by omega), W64_id (n := ny - 1) (by omega) (by omega)]
  omega
theorem cell_int {i k nx ny : Int} (hx : 1 ≤ nx ∧ nx ≤ 16) (hy : 1 ≤ ny ∧ ny ≤ 16) (hi : 0 ≤ i ∧ i ≤ nx - 1) (hk : 0 ≤ k ∧ k ≤ ny - 1) : 0 ≤ W64 (W64 (k * nx) + i) ∧ W64 (W64 (k * nx) + i) < W64 (nx * ny) := by
  have h1 : 0 ≤ k * nx := Int.mul_nonneg hk.1 (by omega)
  have h2 : k * nx ≤ (ny - 1) * nx := Int.mul_le_mul_of_nonneg_right hk.2 (by omega)
  have h3 : nx * ny ≤ 16 * 16 := mul_le3 (by omega) hx.2 (by omega) hy.2
  have h4 : (ny - 1) * nx = nx * ny - nx := by grind
  rw [W64_id (n := k * nx) (by omega) (by omega), W64_id (n := k * nx + i) (by omega) (by omega), W64_id (n := nx * ny) (by omega) (by omega)]
  omega
structure LawOk (l : TCT cLawn) : Prop where
  w : 65536 ≤ l.2.1 ∧ l.2.1 ≤ 4194304
  lg : 65536 ≤ l.2.2.1 ∧ l.2.2.1 ≤ 4194304
  nx : 1 ≤ nxL l ∧ nxL l ≤ 16
  ny : 1 ≤ nyL l ∧ nyL l ≤ 16
  n : ((cellsL l).length : Int) = W64 (nxL l * nyL l)
  hs : (hoopsL l).all hoopB = true
  cs : (cellsL l).all cellB = true
  ap : apF l.2.1 l.2.2.1 (postsF l) = true
  hn : 1 ≤ (hoopsL l).length ∧ (hoopsL l).length ≤ 12
theorem law_ok {l : TCT cLawn} (h : lawE l = 0) : LawOk l := by
  have hn := hoops_ok h
  unfold lawE at h
  cases hm : manyB l with
  | true => rw [hm] at h; cases h
  | false =>
    rw [hm, cond_false] at h
    cases ho : okL l with
    | false => rw [ho] at h; cases h
    | true =>
      unfold okL dimB numB at ho
      simp only [Bool.and_eq_true, inR_iff, Bool.not_eq_true', decide_eq_false_iff_not, bne_eq_false_iff_eq] at ho
      obtain ⟨⟨_, hw, hl, _⟩, hp, ⟨n1, n2, n3, n4, n5⟩, h1, h2, h3⟩ := ho
      exact ⟨hw, hl, ⟨Int.not_lt.1 n1, Int.not_lt.1 n2⟩, ⟨Int.not_lt.1 n3, Int.not_lt.1 n4⟩, n5, h1, h2, h3, hn.2, hn.1⟩
theorem at_ce_ok {l : TCT cLawn} {p : TCT cPt} (h : lawE l = 0) (ho : onB l p = true) : at_ce l p = .leaf (etaC (getA (cellsL l) (Int.toNat (cellI l p)) (dflt cCell)), 0, ()) := by
  have k := law_ok h
  unfold onB at ho
  simp only [Bool.and_eq_true, inR_iff] at ho
  have hw : 1 ≤ l.2.1 ∧ l.2.1 ≤ 4194304 := ⟨Int.le_trans (by decide) k.w.1, k.w.2⟩
  have hl : 1 ≤ l.2.2.1 ∧ l.2.2.1 ≤ 4194304 := ⟨Int.le_trans (by decide) k.lg.1, k.lg.2⟩
  have hc := cell_int k.nx k.ny (cell_one hw ho.1 k.nx) (cell_one hl ho.2 k.ny)
  rw [← k.n] at hc
  have e1 : (l.2.1 != 0) = true := by
    rw [bne_iff_ne]; intro e; rw [e] at hw; exact absurd hw.1 (by decide)
  have e2 : (l.2.2.1 != 0) = true := by
    rw [bne_iff_ne]; intro e; rw [e] at hl; exact absurd hl.1 (by decide)
  unfold at_ce
  rw [e1, e2, decide_eq_true (show 0 ≤ cellI l p ∧ cellI l p < ((cellsL l).length : Int) from hc)]
  rfl
theorem on_ce_ok {l : TCT cLawn} {p : TCT cPt} (h : lawE l = 0) : on_ce l p = bif onB l p then .leaf (etaC (getA (cellsL l) (Int.toNat (cellI l p)) (dflt cCell)), 0, ()) else bad_ce 5 := by
  cases ho : onB l p with
  | true =>
    have := at_ce_ok h ho
    unfold on_ce
    unfold onB at ho
    simp only [Bool.and_eq_true] at ho
    rw [ho.1, ho.2, this]
    rfl
  | false =>
    unfold on_ce
    unfold onB at ho
    cases h1 : inR p.1 0 l.2.1 with
    | false => rfl
    | true =>
      rw [h1, Bool.true_and] at ho
      rw [ho]
      rfl
def res_ce (l : TCT cLawn) (p : TCT cPt) : TCTs [cCell, cI] := (((cellV l p).1, (cellV l p).2.1, (cellV l p).2.2.1, ()), cellE l p, ())
theorem ce_sat {l : TCT cLawn} {p : TCT cPt} : (bif oneE l p != 0 then bad_ce (oneE l p) else on_ce l p : TCe).sat (fun y => y = res_ce l p) := by
  unfold res_ce cellV cellE
  cases h1 : oneE l p != 0 with
  | true =>
    have hne : (oneE l p == 0) = false := by
      rw [bne_iff_ne] at h1
      exact beq_eq_false_iff_ne.2 h1
    simp only [cond_true]
    rw [hne]
    exact rfl
  | false =>
    have hl : lawE l = 0 := by
      unfold oneE at h1
      cases h2 : lawE l != 0 with
      | true => rw [h2, cond_true] at h1; rw [h2] at h1; cases h1
      | false => exact bne_eq_false_iff_eq.1 h2
    simp only [cond_false]
    rw [on_ce_ok hl]
    cases onB l p <;> exact rfl
theorem u_ck_ne (x y : Int) : (u_ck x y != 0) = !fpt x y := by unfold u_ck; cases fpt x y <;> rfl
def plCe : List (Nat × PureT) := (50, s_Check) :: (132, s_inR) :: plPs
theorem puCe : PuOk Tryz.prog plCe := puOk_cons is_tChk.plain q_Check (puOk_cons is_between2.plain q_between2 puPs)
theorem T_ce_ok {l : TCT cLawn} {p : TCT cPt} (hs : (l.1.size : Int) ≤ maxK .i64) : (T_ce l p).sat (fun y => y = res_ce l p) := by
  have key := ce_sat (l := l) (p := p)
  unfold T_ce
  rw [szT_ok hs, u_ck_ne]
  unfold oneE at key
  cases h : lawE l != 0 with
  | true =>
    rw [h] at key
    simp only [cond_true] at key ⊢
    rw [h] at key
    exact key
  | false =>
    rw [h] at key
    simp only [cond_false] at key ⊢
    cases hf : fpt p.1 p.2.1 with
    | true => rw [hf] at key; exact key
    | false => rw [hf] at key; exact key
theorem q_CellAt : PureOk Tryz.prog 160 s_CellAt := q_by (ctxU_ok (u := 2) mixed puCe (fns_cons is_CellAt (fns_cons is_lchk (fns_cons is_lon fns_nil)))) 7 (fun x => T_ce x.1 x.2.1) T_ce_eq fun x hok _ => T_ce_ok (of_decide_eq_true hok)
end St
end V
end Go.Proofs.YtkiaifmbbnnliaaGreat
namespace Go.Proofs.YtkiaifmbbnnliaaGreat
open Go.RowKit
namespace V
namespace St
theorem is_cGround : FnIs Tryz.prog (30, Tryz.f30) := ⟨Tryz.func30, by kernel_rfl, by kernel_rfl⟩
theorem is_rGround : FnIs Tryz.prog (31, Tryz.f31) := ⟨Tryz.func31, by kernel_rfl, by kernel_rfl⟩
def ballsG (g : TCT cGr) : List (TCT cBall) := g.2.1
def okG (g : TCT cGr) : Bool := (ballsG g).all ballOk && bncB g.2.2.1.1 g.2.2.1.2.1
def groE (g : TCT cGr) : Int := bif lawE g.1 != 0 then lawE g.1 else bif decide (((ballsG g).length : Int) < 1) || decide (((ballsG g).length : Int) > 8) then 6 else bif okG g then 0 else 2
abbrev s_Gr : PureT := spec [cGr] [cI] (fun x => decide ((x.1.1.1.size : Int) ≤ maxK .i64)) (fun x => (groE x.1, ()))
def plG : List (Nat × PureT) := [(75, s_law), (79, s_CheckBounce), (76, s_cfBall), (42, s_law), (81, s_CheckBounce), (80, s_CheckBall)]
theorem puG : PuOk Tryz.prog plG := puOk_cons is_lCheck.plain q_lCheck (puOk_cons is_CheckBounce.plain q_CheckBounce (puOk_cons is_cfBall.plain q_cfBall (puOk_cons is_rLaw.plain q_rLaw (puOk_cons is_rCheckBounce.plain q_rCheckBounce (puOk_cons is_rCheckBall.plain q_rCheckBall puOk_nil)))))
def bn_G (g : TCT cGr) : TEr := bif okE (bncB g.2.2.1.1 g.2.2.1.2.1) != 0 then .leaf (2, ()) else .leaf (0, ())
def T_G (g : TCT cGr) : TEr := szT g.1 (bif lawE g.1 != 0 then .leaf (lawE g.1, ()) else er (decide (((ballsG g).length : Int) < 1)) 6 (er (decide (((ballsG g).length : Int) > 8)) 6 (er ((ballsG g).any (p_Ball ())) 2 (bn_G g))))
theorem T_G_eq (x : TCTs [cGr]) : evFn (ctx Tryz.prog plG [(30, Tryz.f30)]) 7 (.fn 30) (encAs [cGr] x) noHeap 0 (outK Tryz.prog [cI]) = T_G x.1 := by kernel_rfl
theorem T_G_ok {g : TCT cGr} (hs : (g.1.1.size : Int) ≤ maxK .i64) : (T_G g).sat (fun y => y = (groE g, ())) := by
  unfold T_G groE okG bn_G
  have hq : (ballsG g).any (p_Ball ()) = !(ballsG g).all ballOk := any_not ballOk _
  rw [szT_ok hs, hq, okE_ne, ← er_or]
  cases lawE g.1 != 0 with
  | true => exact rfl
  | false =>
    simp only [cond_false]
    cases decide (((ballsG g).length : Int) < 1) || decide (((ballsG g).length : Int) > 8) with
    | true => exact rfl
    | false => cases (ballsG g).all ballOk <;> cases bncB g.2.2.1.1 g.2.2.1.2.1 <;> exact rfl
theorem q_Gr : PureOk Tryz.prog 30 s_Gr := q_by (ctx_ok mixed puG (fns_cons is_cGround fns_nil)) 7 (fun x => T_G x.1) T_G_eq fun x hok _ => T_G_ok (of_decide_eq_true hok)
abbrev kGr : List SK := [.d .s, .d cI, .d cI, .d cI, .d (.sl cHoop), .d cI, .d cI, .d cI, .d cI, .d cI, .d (.sl cCell), .d (.sl cBall), .d cI, .d cI]
def grOf (x : SKTs kGr) : TCT cGr := ((x.1, x.2.1, x.2.2.1, x.2.2.2.1, x.2.2.2.2.1, ((x.2.2.2.2.2.1, x.2.2.2.2.2.2.1, ()), x.2.2.2.2.2.2.2.1, ()), x.2.2.2.2.2.2.2.2.1, x.2.2.2.2.2.2.2.2.2.1, x.2.2.2.2.2.2.2.2.2.2.1, ()), x.2.2.2.2.2.2.2.2.2.2.2.1, (x.2.2.2.2.2.2.2.2.2.2.2.2.1, x.2.2.2.2.2.2.2.2.2.2.2.2.2.1, ()), ())
def grTo (g : TCT cGr) : SKTs kGr := (g.1.1, g.1.2.1, g.1.2.2.1, g.1.2.2.2.1, g.1.2.2.2.2.1, g.1.2.2.2.2.2.1.1.1, g.1.2.2.2.2.2.1.1.2.1, g.1.2.2.2.2.2.1.2.1, g.1.2.2.2.2.2.2.1, g.1.2.2.2.2.2.2.2.1, g.1.2.2.2.2.2.2.2.2.1, g.2.1, g.2.2.1.1, g.2.2.1.2.1, ())
noncomputable def lb_rg : Code := (loopsOf (bodyOf Tryz.f31)).getD 0 .skip
def L_rg : Lay := { keys := [1, 3], ks := [.p 0 0 0 0, .d cI], bs := [(0, 34, kGr)], n := 39, nx := 1000, marks := [] }
def R_rg : Lay := { keys := [1], ks := [.p 0 0 0 0], bs := [(0, 34, kGr)], n := 39, nx := 1000, marks := [] }
def Rf_rg : Lay := { keys := [2], ks := [.d cI], bs := [], n := 39, nx := 1000, marks := [] }
def E_rg : XE → Lay := fun e => match e with | .ret => Rf_rg | _ => R_rg
def hd_rg (x : SKTs kGr) (i : Int) : L_rg.T := (((), i, ()), (x, ()))
def rt_rg : Left' E_rg := ⟨.ret, ((2, ()), ())⟩
def ex_rg (x : SKTs kGr) : Left' E_rg := ⟨.exit 0, (((), ()), (x, ()))⟩
def blX (x : SKTs kGr) : List (TCT cBall) := x.2.2.2.2.2.2.2.2.2.2.2.1
def badBl (b : TCT cBall) : Bool := okE (ballB b.1 b.2.1) != 0
def st_rg (g : L_rg.T) : Tree (L_rg.T ⊕ Left' E_rg) := bif decide (g.1.2.1 < ((blX g.2.1).length : Int)) then bif decide (0 ≤ g.1.2.1 ∧ g.1.2.1 < ((blX g.2.1).length : Int)) then
  bif badBl (getA (blX g.2.1) (Int.toNat g.1.2.1) (dflt cBall)) then .leaf (.inr rt_rg) else .leaf (.inl (hd_rg g.2.1 (W64 (g.1.2.1 + 1)))) else .fail else .leaf (.inr (ex_rg g.2.1))
def fu_rg (g : L_rg.T) : Nat := (blX g.2.1).length + 1
theorem l_rg : LoopOk Tryz.prog 31 lb_rg (loopSum L_rg E_rg (finX [.ret, .exit 0] st_rg fu_rg)) := loopOk_x0 (ctx_ok mixed puG fns_nil) 7 _ L_rg E_rg (fun e => by cases e <;> exact Nat.le_refl _) [.ret, .exit 0] st_rg fu_rg (fun g => by kernel_rfl)
noncomputable def X_rg : Ctx := ctxL Tryz.prog plG [(31, Tryz.f31)] [((31, 6), loopSum L_rg E_rg (finX [.ret, .exit 0] st_rg fu_rg))]
theorem X_rg_ok : CtxOk X_rg := ctxL_ok mixed puG (fns_cons is_rGround fns_nil) (loops_one (by kernel_rfl) (by kernel_rfl) l_rg)
def y_rg (x : SKTs kGr) : Option (Left' E_rg) := iter st_rg ((blX x).length + 1) (hd_rg x 0)
def T_rG (g : TCT cGr) : TEr := szT g.1 (bif lawE g.1 != 0 then szT g.1 (.leaf (lawE g.1, ())) else er (decide (((ballsG g).length : Int) < 1)) 6 (er (decide (((ballsG g).length : Int) > 8)) 6 (
  bif isE .ret (y_rg (grTo g)) then .leaf ((valE .ret (y_rg (grTo g))).1.1, ()) else bif isE (.exit 0) (y_rg (grTo g)) then bn_G (grOf (valE (.exit 0) (y_rg (grTo g))).2.1) else .fail)))
theorem T_rG_eq (x : TCTs [cGr]) : evFn X_rg 7 (.fn 31) (encAs [cGr] x) noHeap 0 (outK Tryz.prog [cI]) = T_rG x.1 := by kernel_rfl
theorem T_rG_ok {g : TCT cGr} (hs : (g.1.1.size : Int) ≤ maxK .i64) (hb : ((ballsG g).length : Int) ≤ maxK .i64) : (T_rG g).sat (fun y => y = (groE g, ())) := by
  have hy : y_rg (grTo g) = some (bif (blX (grTo g)).any badBl then rt_rg else ex_rg (grTo g)) := iter_bad (blX (grTo g)) (dflt cBall) (hd_rg (grTo g)) badBl rt_rg (ex_rg (grTo g)) hb (fun _ => rfl)
  have hq : (blX (grTo g)).any badBl = !(ballsG g).all ballOk := by
    rw [← any_not ballOk]
    exact any_congr fun b _ => okE_ne _
  rw [hq] at hy
  unfold T_rG groE okG
  rw [szT_ok hs, szT_ok hs, hy, ← er_or]
  cases lawE g.1 != 0 with
  | true => exact rfl
  | false =>
    simp only [cond_false]
    cases decide (((ballsG g).length : Int) < 1) || decide (((ballsG g).length : Int) > 8) with
    | true => exact rfl
    | false =>
      cases (ballsG g).all ballOk with
      | false => exact rfl
      | true =>
        show (bn_G g).sat _
        unfold bn_G
        rw [okE_ne]
        cases bncB g.2.2.1.1 g.2.2.1.2.1 <;> exact rfl
theorem q_rGr : PureOk Tryz.prog 31 s_Gr := q_by X_rg_ok 7 (fun x => T_rG x.1) T_rG_eq fun x hok hw => T_rG_ok (of_decide_eq_true hok) (wfl_len hw.1.2.1)
end St
end V
end Go.Proofs.YtkiaifmbbnnliaaGreat
namespace Go.Proofs.YtkiaifmbbnnliaaGreat
open Go.RowKit
namespace V
namespace St
theorem is_sOn : FnIs Tryz.prog (73, Tryz.f73) := ⟨Tryz.func73, by kernel_rfl, by kernel_rfl⟩
abbrev s_onB : PureT := spec [cLawn, cPt] [.b] (fun _ => true) (fun x => (onB x.1 x.2.1, ()))
def T_on (l : TCT cLawn) (p : TCT cPt) : TBo := andT (decide (0 ≤ p.1)) (andT (decide (p.1 ≤ l.2.1)) (andT (decide (0 ≤ p.2.1)) (.leaf (decide (p.2.1 ≤ l.2.2.1), ()))))
theorem onB_eq (l : TCT cLawn) (p : TCT cPt) : onB l p = (decide (0 ≤ p.1) && (decide (p.1 ≤ l.2.1) && (decide (0 ≤ p.2.1) && decide (p.2.1 ≤ l.2.2.1)))) := by
  unfold onB inR
  simp only [Bool.and_assoc]
theorem q_sOn : PureOk Tryz.prog 73 s_onB := q_by (ctx_ok mixed puOk_nil (fns_cons is_sOn fns_nil)) 4 (fun x => T_on x.1 x.2.1) (fun x => by kernel_rfl) fun x _ _ => by
  show (T_on x.1 x.2.1).sat (fun y => y = (onB x.1 x.2.1, ()))
  rw [onB_eq]
  exact andT_ok (andT_ok (andT_ok (leafB _)))
theorem q_rIs : PureOk Tryz.prog 74 s_onB := q_by (ctx_ok mixed (puOk_cons is_within2.plain q_within2 puOk_nil) (fns_cons is_rIs fns_nil)) 4 (fun x => andT (inR x.2.1.1 0 x.1.2.1) (.leaf (inR x.2.1.2.1 0 x.1.2.2.1, ()))) (fun x => by kernel_rfl) fun x _ _ => andT_ok (leafB _)
end St
end V
end Go.Proofs.YtkiaifmbbnnliaaGreat
namespace Go.Proofs.YtkiaifmbbnnliaaGreat
open Go.RowKit
namespace V
namespace St
theorem is_cState : FnIs Tryz.prog (32, Tryz.f32) := ⟨Tryz.func32, by kernel_rfl, by kernel_rfl⟩
theorem is_rState : FnIs Tryz.prog (26, Tryz.f26) := ⟨Tryz.func26, by kernel_rfl, by kernel_rfl⟩
theorem is_rvalid : FnIs Tryz.prog (70, Tryz.f70) := ⟨Tryz.func70, by kernel_rfl, by kernel_rfl⟩
abbrev kSt : List SK := [.d (.sl cMot), .d (.sl .b), .d cI, .d cI, .d cI]
abbrev bsS : List BK := [(0, 34, kGr), (1, 38, kSt)]
def plS1 : List (Nat × PureT) := [(30, s_Gr), (82, s_CheckMotion), (31, s_Gr), (128, s_CheckMotion), (73, s_onB), (74, s_onB)]
theorem puS1 : PuOk Tryz.prog plS1 := puOk_cons is_cGround.plain q_Gr (puOk_cons is_CheckMotion.plain q_CheckMotion (puOk_cons is_rGround.plain q_rGr (puOk_cons is_rCheckMotion.plain q_rCheckMotion (puOk_cons is_sOn.plain q_sOn (puOk_cons is_rIs.plain q_rIs puOk_nil)))))
def inN {β : Type} (n : Nat) (i : Int) (k : Tree β) : Tree β := bif decide (0 ≤ i ∧ i < (n : Int)) then k else .fail
theorem inN_ok {β : Type} {n : Nat} {i : Int} {k : Tree β} (h : 0 ≤ i ∧ i < (n : Int)) : inN n i k = k := by unfold inN; rw [decide_eq_true h]; rfl
def motE (b : TCT cBall) (m : TCT cMot) : Bool := motB b.1 b.2.1 m.1.1 m.1.2.1 m.2.1.1 m.2.1.2.1 m.2.2.1.1 m.2.2.1.2.1
def atM (m : TCT cMot) : TCT cPt := (m.1.1, m.1.2.1, ())
def rest_S {β : Type} (no : Nat) (i : Int) (o : Bool) (m : TCT cMot) (rt nx : Tree β) : Tree β := inN no i (bif o then bif !(m.2.1.1 == 0 && (m.2.1.2.1 == 0 && true)) then rt else nx else nx)
def one_S {β : Type} (nb no : Nat) (i : Int) (l : TCT cLawn) (b : TCT cBall) (o : Bool) (m : TCT cMot) (rt nx : Tree β) : Tree β :=
  inN nb i (bif okE (motE b m) != 0 then rt else inN no i (bif !o then bif !onB l (atM m) then rt else rest_S no i o m rt nx else rest_S no i o m rt nx))
def lwG (x : SKTs kGr) : TCT cLawn := (grOf x).1
noncomputable def lb_cs : Code := (loopsOf (bodyOf Tryz.f32)).getD 0 .skip
def L_cs : Lay := { keys := [2, 3, 30, 31, 32], ks := [.p 0 0 0 0, .p 1 0 0 0, .d (.sl cMot), .d cI, .d cI], bs := bsS, n := 106, nx := 1000, marks := [] }
def R_cs : Lay := { keys := [2, 3], ks := [.p 0 0 0 0, .p 1 0 0 0], bs := bsS, n := 106, nx := 1000, marks := [] }
def Rf_cs : Lay := { keys := [4], ks := [.d cI], bs := [], n := 106, nx := 1000, marks := [] }
def E_cs : XE → Lay := fun e => match e with | .ret => Rf_cs | _ => R_cs
def hd_cs (x : SKTs kGr) (s : SKTs kSt) (m : List (TCT cMot)) (n i : Int) : L_cs.T := (((), (), m, n, i, ()), (x, s, ()))
def rt_cs : Left' E_cs := ⟨.ret, ((2, ()), ())⟩
def ex_cs (x : SKTs kGr) (s : SKTs kSt) : Left' E_cs := ⟨.exit 0, (((), (), ()), (x, s, ()))⟩
def otS (s : SKTs kSt) : List Bool := s.2.1
def st_cs (g : L_cs.T) : Tree (L_cs.T ⊕ Left' E_cs) := bif decide (g.1.2.2.2.2.1 < g.1.2.2.2.1) then bif decide (0 ≤ g.1.2.2.2.2.1 ∧ g.1.2.2.2.2.1 < ((g.1.2.2.1 : List (TCT cMot)).length : Int)) then
  one_S (blX g.2.1).length (otS g.2.2.1).length g.1.2.2.2.2.1 (lwG g.2.1) (getA (blX g.2.1) (Int.toNat g.1.2.2.2.2.1) (dflt cBall)) (getA (otS g.2.2.1) (Int.toNat g.1.2.2.2.2.1) (dflt .b)) (getA g.1.2.2.1 (Int.toNat g.1.2.2.2.2.1) (dflt cMot))
    (.leaf (.inr rt_cs)) (.leaf (.inl (hd_cs g.2.1 g.2.2.1 g.1.2.2.1 g.1.2.2.2.1 (W64 (g.1.2.2.2.2.1 + 1))))) else .fail else .leaf (.inr (ex_cs g.2.1 g.2.2.1))
def fu_cs (g : L_cs.T) : Nat := (g.1.2.2.1 : List (TCT cMot)).length + 1
theorem l_cs : LoopOk Tryz.prog 32 lb_cs (loopSum L_cs E_cs (finX [.ret, .exit 0] st_cs fu_cs)) := loopOk_x0 (ctx_ok mixed puS1 fns_nil) 7 _ L_cs E_cs (fun e => by cases e <;> exact Nat.le_refl _) [.ret, .exit 0] st_cs fu_cs (fun g => by kernel_rfl)
end St
end V
end Go.Proofs.YtkiaifmbbnnliaaGreat
namespace Go.Proofs.YtkiaifmbbnnliaaGreat
open Go.RowKit
namespace V
namespace St
noncomputable def lb_vs : Code := (loopsOf (bodyOf Tryz.f70)).getD 0 .skip
def L_vs : Lay := { keys := [2, 3, 5], ks := [.p 0 0 0 0, .p 1 0 0 0, .d cI], bs := bsS, n := 103, nx := 1000, marks := [] }
def R_vs : Lay := { keys := [2, 3], ks := [.p 0 0 0 0, .p 1 0 0 0], bs := bsS, n := 103, nx := 1000, marks := [] }
def Rf_vs : Lay := { keys := [4], ks := [.d cI], bs := [], n := 103, nx := 1000, marks := [] }
def E_vs : XE → Lay := fun e => match e with | .ret => Rf_vs | _ => R_vs
def hd_vs (x : SKTs kGr) (s : SKTs kSt) (i : Int) : L_vs.T := (((), (), i, ()), (x, s, ()))
def rt_vs : Left' E_vs := ⟨.ret, ((2, ()), ())⟩
def ex_vs (x : SKTs kGr) (s : SKTs kSt) : Left' E_vs := ⟨.exit 0, (((), (), ()), (x, s, ()))⟩
def msS (s : SKTs kSt) : List (TCT cMot) := s.1
def st_vs (g : L_vs.T) : Tree (L_vs.T ⊕ Left' E_vs) := bif decide (g.1.2.2.1 < ((blX g.2.1).length : Int)) then inN (msS g.2.2.1).length g.1.2.2.1 (
  one_S (blX g.2.1).length (otS g.2.2.1).length g.1.2.2.1 (lwG g.2.1) (getA (blX g.2.1) (Int.toNat g.1.2.2.1) (dflt cBall)) (getA (otS g.2.2.1) (Int.toNat g.1.2.2.1) (dflt .b)) (getA (msS g.2.2.1) (Int.toNat g.1.2.2.1) (dflt cMot))
    (.leaf (.inr rt_vs)) (.leaf (.inl (hd_vs g.2.1 g.2.2.1 (W64 (g.1.2.2.1 + 1)))))) else .leaf (.inr (ex_vs g.2.1 g.2.2.1))
def fu_vs (g : L_vs.T) : Nat := (blX g.2.1).length + 1
theorem l_vs : LoopOk Tryz.prog 70 lb_vs (loopSum L_vs E_vs (finX [.ret, .exit 0] st_vs fu_vs)) := loopOk_x0 (ctx_ok mixed puS1 fns_nil) 7 _ L_vs E_vs (fun e => by cases e <;> exact Nat.le_refl _) [.ret, .exit 0] st_vs fu_vs (fun g => by kernel_rfl)
end St
end V
end Go.Proofs.YtkiaifmbbnnliaaGreat
namespace Go.Proofs.YtkiaifmbbnnliaaGreat
open Go.RowKit
namespace V
namespace St
def stTo (s : TCT cSt) : SKTs kSt := (s.1, s.2.1, s.2.2.1, s.2.2.2.1, s.2.2.2.2.1, ())
def stOf (s : SKTs kSt) : TCT cSt := (s.1, s.2.1, s.2.2.1, s.2.2.2.1, s.2.2.2.2.1, ())
def msT (s : TCT cSt) : List (TCT cMot) := s.1
def osT (s : TCT cSt) : List Bool := s.2.1
def okO (l : TCT cLawn) (b : TCT cBall) (o : Bool) (m : TCT cMot) : Bool := motE b m && (bif o then m.2.1.1 == 0 && (m.2.1.2.1 == 0 && true) else onB l (atM m))
def okS (g : TCT cGr) (os : List Bool) (i : Nat) (m : TCT cMot) : Bool := okO g.1 (getA (ballsG g) i (dflt cBall)) (getA os i (dflt .b)) m
theorem one_S_run {G E : Type} {nb no : Nat} {i : Int} {l : TCT cLawn} {b : TCT cBall} {o : Bool} {m : TCT cMot} {rt : E} {nx : G} (h1 : 0 ≤ i ∧ i < (nb : Int)) (h2 : 0 ≤ i ∧ i < (no : Int)) :
    (one_S nb no i l b o m (.leaf (.inr rt)) (.leaf (.inl nx)) : Tree (G ⊕ E)).run = some (bif okO l b o m then .inl nx else .inr rt) := by
  unfold one_S rest_S okO
  rw [inN_ok h1, okE_ne, inN_ok h2, inN_ok h2]
  cases motE b m with
  | false => rfl
  | true =>
    cases o with
    | false => cases onB l (atM m) <;> rfl
    | true => cases m.2.1.1 == 0 && (m.2.1.2.1 == 0 && true) <;> rfl
def y_cs (g : TCT cGr) (s : TCT cSt) : Option (Left' E_cs) := iter st_cs ((msT s).length + 1) (hd_cs (grTo g) (stTo s) s.1 (msT s).length 0)
def y_vs (g : TCT cGr) (s : TCT cSt) : Option (Left' E_vs) := iter st_vs ((ballsG g).length + 1) (hd_vs (grTo g) (stTo s) 0)
theorem y_cs_eq {g : TCT cGr} {s : TCT cSt} (h1 : (msT s).length = (ballsG g).length) (h2 : (osT s).length = (ballsG g).length) (hm : ((msT s).length : Int) ≤ maxK .i64) :
    y_cs g s = some (bif allI (okS g (osT s)) 0 (msT s) then ex_cs (grTo g) (stTo s) else rt_cs) := by
  refine iter_all (msT s) (dflt cMot) (fun i => hd_cs (grTo g) (stTo s) s.1 (msT s).length i) (okS g (osT s))
    (fun i m => one_S (ballsG g).length (osT s).length i g.1 (getA (ballsG g) (Int.toNat i) (dflt cBall)) (getA (osT s) (Int.toNat i) (dflt .b)) m (.leaf (.inr rt_cs)) (.leaf (.inl (hd_cs (grTo g) (stTo s) s.1 (msT s).length (W64 (i + 1))))) : Int → TCT cMot → Tree (L_cs.T ⊕ Left' E_cs)) rt_cs (ex_cs (grTo g) (stTo s)) hm (fun i => rfl) fun i hi => ?_
  rw [one_S_run (by omega) (by omega), show Int.toNat (i : Int) = i from rfl, W64_succ hi hm]
  rfl
theorem y_vs_eq {g : TCT cGr} {s : TCT cSt} (h1 : (msT s).length = (ballsG g).length) (h2 : (osT s).length = (ballsG g).length) (hm : ((msT s).length : Int) ≤ maxK .i64) :
    y_vs g s = some (bif allI (okS g (osT s)) 0 (msT s) then ex_vs (grTo g) (stTo s) else rt_vs) := by
  unfold y_vs
  rw [← h1]
  refine iter_all (msT s) (dflt cMot) (fun i => hd_vs (grTo g) (stTo s) i) (okS g (osT s))
    (fun i m => one_S (ballsG g).length (osT s).length i g.1 (getA (ballsG g) (Int.toNat i) (dflt cBall)) (getA (osT s) (Int.toNat i) (dflt .b)) m (.leaf (.inr rt_vs)) (.leaf (.inl (hd_vs (grTo g) (stTo s) (W64 (i + 1))))) : Int → TCT cMot → Tree (L_vs.T ⊕ Left' E_vs)) rt_vs (ex_vs (grTo g) (stTo s)) hm (fun i => ?_) fun i hi => ?_
  · show (bif decide (i < ((ballsG g).length : Int)) then inN (msT s).length i (one_S (ballsG g).length (osT s).length i g.1 (getA (ballsG g) (Int.toNat i) (dflt cBall)) (getA (osT s) (Int.toNat i) (dflt .b)) (getA (msT s) (Int.toNat i) (dflt cMot)) (.leaf (.inr rt_vs)) (.leaf (.inl (hd_vs (grTo g) (stTo s) (W64 (i + 1)))))) else .leaf (.inr (ex_vs (grTo g) (stTo s))) : Tree (L_vs.T ⊕ Left' E_vs)) = _
    rw [← h1]
    rfl
  · rw [one_S_run (by omega) (by omega), show Int.toNat (i : Int) = i from rfl, W64_succ hi hm]
    rfl
def numS (n : Int) (s : TCT cSt) : Bool := decide (s.2.2.1 < 0) || (decide (s.2.2.1 ≥ n) || (decide (s.2.2.2.1 < 0) || (decide (s.2.2.2.1 > 8) || (decide (s.2.2.2.2.1 < 0) || decide (s.2.2.2.2.1 > 4000)))))
def eqlS (g : TCT cGr) (s : TCT cSt) : Bool := (((msT s).length : Int) == ((ballsG g).length : Int)) && (((osT s).length : Int) == ((ballsG g).length : Int))
def vaE (g : TCT cGr) (s : TCT cSt) : Int := bif eqlS g s then bif allI (okS g (osT s)) 0 (msT s) then bif numS (ballsG g).length s then 2 else 0 else 2 else 17
def staE (g : TCT cGr) (s : TCT cSt) : Int := bif groE g != 0 then groE g else vaE g s
abbrev s_Va : PureT := spec [cGr, cSt] [cI] (fun _ => true) (fun x => (vaE x.1 x.2.1, ()))
abbrev s_Sta : PureT := spec [cGr, cSt] [cI] (fun x => decide ((x.1.1.1.size : Int) ≤ maxK .i64)) (fun x => (staE x.1 x.2.1, ()))
end St
end V
end Go.Proofs.YtkiaifmbbnnliaaGreat
namespace Go.Proofs.YtkiaifmbbnnliaaGreat
open Go.RowKit
namespace V
namespace St
def rg_T (n : Int) (s : TCT cSt) : TEr := er (decide (s.2.2.1 < 0)) 2 (er (decide (s.2.2.1 ≥ n)) 2 (er (decide (s.2.2.2.1 < 0)) 2 (er (decide (s.2.2.2.1 > 8)) 2 (er (decide (s.2.2.2.2.1 < 0)) 2 (er (decide (s.2.2.2.2.1 > 4000)) 2 (.leaf (0, ())))))))
theorem rg_T_eq (n : Int) (s : TCT cSt) : rg_T n s = er (numS n s) 2 (.leaf (0, ())) := by
  unfold rg_T numS
  rw [er_or, er_or, er_or, er_or, er_or]
def eq_T (g : TCT cGr) (s : TCT cSt) (k : TEr) : TEr := er (((msT s).length : Int) != ((ballsG g).length : Int)) 17 (er (((osT s).length : Int) != ((ballsG g).length : Int)) 17 k)
theorem eq_T_eq (g : TCT cGr) (s : TCT cSt) (k : TEr) : eq_T g s k = er (!eqlS g s) 17 k := by
  unfold eq_T eqlS
  rw [← er_or]
  congr 1
  cases h1 : ((msT s).length : Int) == ((ballsG g).length : Int) <;> cases h2 : ((osT s).length : Int) == ((ballsG g).length : Int) <;> simp [bne, h1, h2]
theorem eqlS_iff {g : TCT cGr} {s : TCT cSt} (h : eqlS g s = true) : (msT s).length = (ballsG g).length ∧ (osT s).length = (ballsG g).length := by
  unfold eqlS at h
  simp only [Bool.and_eq_true, beq_iff_eq] at h
  omega
def a_cs (g : TCT cGr) (y : Option (Left' E_cs)) : TEr := bif isE .ret y then .leaf ((valE .ret y).1.1, ()) else bif isE (.exit 0) y then rg_T (blX (valE (.exit 0) y).2.1).length (stOf (valE (.exit 0) y).2.2.1) else .fail
def a_vs (g : TCT cGr) (y : Option (Left' E_vs)) : TEr := bif isE .ret y then .leaf ((valE .ret y).1.1, ()) else bif isE (.exit 0) y then rg_T (blX (valE (.exit 0) y).2.1).length (stOf (valE (.exit 0) y).2.2.1) else .fail
def T_cs (g : TCT cGr) (s : TCT cSt) : TEr := szT g.1 (bif groE g != 0 then .leaf (groE g, ()) else eq_T g s (a_cs g (y_cs g s)))
def T_vs (g : TCT cGr) (s : TCT cSt) : TEr := eq_T g s (a_vs g (y_vs g s))
theorem va_sat {g : TCT cGr} {s : TCT cSt} {k : TEr} (h : eqlS g s = true → k = bif allI (okS g (osT s)) 0 (msT s) then rg_T (ballsG g).length s else .leaf (2, ())) : (eq_T g s k).sat (fun y => y = (vaE g s, ())) := by
  rw [eq_T_eq]
  unfold vaE
  cases he : eqlS g s with
  | false => exact rfl
  | true =>
    rw [h he]
    cases allI (okS g (osT s)) 0 (msT s) with
    | false => exact rfl
    | true =>
      simp only [Bool.not_true, cond_true]
      rw [rg_T_eq]
      cases numS (ballsG g).length s <;> exact rfl
theorem T_cs_ok {g : TCT cGr} {s : TCT cSt} (hs : (g.1.1.size : Int) ≤ maxK .i64) (hm : ((msT s).length : Int) ≤ maxK .i64) : (T_cs g s).sat (fun y => y = (staE g s, ())) := by
  unfold T_cs staE
  rw [szT_ok hs]
  cases groE g != 0 with
  | true => exact rfl
  | false =>
    simp only [cond_false]
    refine va_sat fun he => ?_
    obtain ⟨h1, h2⟩ := eqlS_iff he
    rw [y_cs_eq h1 h2 hm]
    cases allI (okS g (osT s)) 0 (msT s) <;> rfl
theorem T_vs_ok {g : TCT cGr} {s : TCT cSt} (hm : ((msT s).length : Int) ≤ maxK .i64) : (T_vs g s).sat (fun y => y = (vaE g s, ())) := by
  unfold T_vs
  refine va_sat fun he => ?_
  obtain ⟨h1, h2⟩ := eqlS_iff he
  rw [y_vs_eq h1 h2 hm]
  cases allI (okS g (osT s)) 0 (msT s) <;> rfl
noncomputable def X_cs : Ctx := ctxL Tryz.prog plS1 [(32, Tryz.f32)] [((32, 7), loopSum L_cs E_cs (finX [.ret, .exit 0] st_cs fu_cs))]
theorem X_cs_ok : CtxOk X_cs := ctxL_ok mixed puS1 (fns_cons is_cState fns_nil) (loops_one (by kernel_rfl) (by kernel_rfl) l_cs)
theorem q_State : PureOk Tryz.prog 32 s_Sta := q_by X_cs_ok 7 (fun x => T_cs x.1 x.2.1) (fun x => by kernel_rfl) fun x hok hw => T_cs_ok (of_decide_eq_true hok) (wfl_len hw.2.1.1)
noncomputable def X_vs : Ctx := ctxL Tryz.prog plS1 [(70, Tryz.f70)] [((70, 4), loopSum L_vs E_vs (finX [.ret, .exit 0] st_vs fu_vs))]
theorem X_vs_ok : CtxOk X_vs := ctxL_ok mixed puS1 (fns_cons is_rvalid fns_nil) (loops_one (by kernel_rfl) (by kernel_rfl) l_vs)
theorem q_rvalid : PureOk Tryz.prog 70 s_Va := q_by X_vs_ok 7 (fun x => T_vs x.1 x.2.1) (fun x => by kernel_rfl) fun x _ hw => T_vs_ok (wfl_len hw.2.1.1)
def plS2 : List (Nat × PureT) := (70, s_Va) :: plS1
theorem puS2 : PuOk Tryz.prog plS2 := puOk_cons is_rvalid.plain q_rvalid puS1
theorem q_rState : PureOk Tryz.prog 26 s_Sta := q_by (ctx_ok mixed puS2 (fns_cons is_rState fns_nil)) 7 (fun x => szT x.1.1 (bif groE x.1 != 0 then szT x.1.1 (.leaf (groE x.1, ())) else .leaf (vaE x.1 x.2.1, ()))) (fun x => by kernel_rfl) fun x hok _ => by
  rw [szT_ok (of_decide_eq_true hok), szT_ok (of_decide_eq_true hok)]
  show (bif groE x.1 != 0 then _ else _ : TEr).sat (fun y => y = (staE x.1 x.2.1, ()))
  unfold staE
  cases groE x.1 != 0 <;> exact rfl
end St
end V
end Go.Proofs.YtkiaifmbbnnliaaGreat
namespace Go.Proofs.YtkiaifmbbnnliaaGreat
open Go.RowKit
namespace V
def foldN {S B : Type} (f : Nat → S → S ⊕ B) : Nat → Nat → S → S ⊕ B
  | _, 0, s => .inl s
  | i, k + 1, s => match f i s with
    | .inl s' => foldN f (i + 1) k s'
    | .inr b => .inr b
def stepN {G E S B : Type} (hd : Nat → S → G) (res : S ⊕ B → E) (i : Nat) : S ⊕ B → G ⊕ E
  | .inl s => .inl (hd (i + 1) s)
  | .inr b => .inr (res (.inr b))
theorem iter_n {G E S B : Type} {st : G → Tree (G ⊕ E)} (n : Nat) (hd : Nat → S → G) (f : Nat → S → S ⊕ B) (res : S ⊕ B → E) (Inv : Nat → S → Prop)
    (h1 : ∀ i s, i < n → Inv i s → (st (hd i s)).run = some (stepN hd res i (f i s)))
    (h2 : ∀ i s s', i < n → Inv i s → f i s = .inl s' → Inv (i + 1) s')
    (h3 : ∀ s, Inv n s → (st (hd n s)).run = some (.inr (res (.inl s)))) :
    ∀ (k i : Nat) (s : S), i + k = n → Inv i s → iter st (k + 1) (hd i s) = some (res (foldN f i k s))
  | 0, i, s, hk, hi => by
    have e : i = n := by omega
    subst e
    exact iter_out (h3 s hi)
  | k + 1, i, s, hk, hi => by
    have hlt : i < n := by omega
    have hr := h1 i s hlt hi
    unfold foldN
    cases hf : f i s with
    | inl s' =>
      rw [hf] at hr
      rw [iter_in hr]
      exact iter_n n hd f res Inv h1 h2 h3 k (i + 1) s' (by omega) (h2 i s s' hlt hi hf)
    | inr b =>
      rw [hf] at hr
      exact iter_out hr
theorem foldN_inv {S B : Type} {f : Nat → S → S ⊕ B} {Inv : Nat → S → Prop} {n : Nat} (h2 : ∀ i s s', i < n → Inv i s → f i s = .inl s' → Inv (i + 1) s') : ∀ (k i : Nat) (s s' : S), i + k = n → Inv i s → foldN f i k s = .inl s' → Inv n s'
  | 0, i, s, s', hk, hi, h => by
    have e : i = n := by omega
    subst e
    cases h
    exact hi
  | k + 1, i, s, s', hk, hi, h => by
    unfold foldN at h
    cases hf : f i s with
    | inl t => rw [hf] at h; exact foldN_inv h2 k (i + 1) t s' (by omega) (h2 i s t (by omega) hi hf) h
    | inr b => rw [hf] at h; cases h
theorem app_ok {β : Type} {h w : List β} {b : Nat} (k : h.length + w.length ≤ 1000000) (hb : b ≤ 48) : appOk h w b = true := by
  rw [appOk_eq, decide_eq_true_iff]
  have h1 : ((h.length + w.length : Nat) : Int) ≤ 1000000 := by omega
  have h2 : (b : Int) ≤ 48 := by omega
  calc ((h.length + w.length : Nat) : Int) * b ≤ 1000000 * 48 := Int.mul_le_mul h1 h2 (by omega) (by decide)
    _ ≤ 140737488355328 := by decide
namespace St
theorem is_sstill : FnIs Tryz.prog (51, Tryz.f51) := ⟨Tryz.func51, by kernel_rfl, by kernel_rfl⟩
theorem is_rIsStill : FnIs Tryz.prog (36, Tryz.f36) := ⟨Tryz.func36, by kernel_rfl, by kernel_rfl⟩
end St
end V
end Go.Proofs.YtkiaifmbbnnliaaGreat
namespace Go.Proofs.YtkiaifmbbnnliaaGreat
open Go.RowKit
namespace V
namespace St
abbrev plS3 : List (Nat × PureT) := (32, s_Sta) :: (26, s_Sta) :: (103, s_cfMot) :: plS2
theorem puS3 : PuOk Tryz.prog plS3 := puOk_cons is_cState.plain q_State (puOk_cons is_rState.plain q_rState (puOk_cons is_cfMot.plain q_cfMot puS2))
def r0 : SKTs kSt := ([], [], 0, 0, 0, ())
def q0 (p : List (TCT cPt)) : SKTs kSt := ([], List.replicate (Int.toNat (p.length : Int)) false, 0, 0, 0, ())
def zS : TCT cSt := ([], [], 0, 0, 0, ())
def etaS (s : TCT cSt) : TCT cSt := (s.1, s.2.1, s.2.2.1, s.2.2.2.1, s.2.2.2.2.1, ())
theorem gro_len {g : TCT cGr} (h : groE g = 0) : 1 ≤ (ballsG g).length ∧ (ballsG g).length ≤ 8 := by
  unfold groE at h
  cases h1 : lawE g.1 != 0 with
  | true => rw [h1, cond_true] at h; rw [h] at h1; cases h1
  | false =>
    rw [h1, cond_false] at h
    cases h2 : decide (((ballsG g).length : Int) < 1) || decide (((ballsG g).length : Int) > 8) with
    | true => rw [h2] at h; cases h
    | false =>
      rw [Bool.or_eq_false_iff, decide_eq_false_iff_not, decide_eq_false_iff_not] at h2
      omega
def stillB (s : TCT cSt) : Bool := (msT s).all restB
abbrev s_isSt : PureT := spec [cSt] [.b] (fun _ => true) (fun x => (stillB x.1, ()))
theorem still_any (s : TCT cSt) : (!(msT s).any (p_Mot ())) = stillB s := by
  have : (msT s).any (p_Mot ()) = !(msT s).all restB := any_not restB _
  rw [this, Bool.not_not]
  rfl
theorem q_sstill : PureOk Tryz.prog 51 s_isSt := q_by (ctx_ok mixed puS3 (fns_cons is_sstill (fns_cons is_still1 fns_nil))) 7 (fun x => .leaf (!(msT x.1).any (p_Mot ()), ())) (fun x => by kernel_rfl) fun x _ _ => by
  show _ = _
  rw [still_any]
noncomputable def lb_is : Code := (loopsOf (bodyOf Tryz.f36)).getD 0 .skip
def L_is : Lay := { keys := [1, 3], ks := [.p 0 0 0 0, .d cI], bs := [(0, 38, kSt)], n := 19, nx := 1000, marks := [] }
def R_is : Lay := { keys := [], ks := [], bs := [], n := 19, nx := 1000, marks := [] }
def Rf_is : Lay := { keys := [2], ks := [.d .b], bs := [], n := 19, nx := 1000, marks := [] }
def E_is : XE → Lay := fun e => match e with | .ret => Rf_is | _ => R_is
def hd_is (s : SKTs kSt) (i : Int) : L_is.T := (((), i, ()), (s, ()))
def rt_is : Left' E_is := ⟨.ret, ((false, ()), ())⟩
def ex_is : Left' E_is := ⟨.exit 0, ((), ())⟩
def movB (m : TCT cMot) : Bool := !(m.2.1.1 == 0 && (m.2.1.2.1 == 0 && true))
theorem movB_eq (m : TCT cMot) : movB m = !restB m := by unfold movB restB; rw [Bool.and_true]
def st_is (g : L_is.T) : Tree (L_is.T ⊕ Left' E_is) := bif decide (g.1.2.1 < ((msS g.2.1).length : Int)) then bif decide (0 ≤ g.1.2.1 ∧ g.1.2.1 < ((msS g.2.1).length : Int)) then
  bif movB (getA (msS g.2.1) (Int.toNat g.1.2.1) (dflt cMot)) then .leaf (.inr rt_is) else .leaf (.inl (hd_is g.2.1 (W64 (g.1.2.1 + 1)))) else .fail else .leaf (.inr ex_is)
def fu_is (g : L_is.T) : Nat := (msS g.2.1).length + 1
theorem l_is : LoopOk Tryz.prog 36 lb_is (loopSum L_is E_is (finX [.ret, .exit 0] st_is fu_is)) := loopOk_x0 (ctx_ok mixed puS1 fns_nil) 7 _ L_is E_is (fun e => by cases e <;> exact Nat.le_refl _) [.ret, .exit 0] st_is fu_is (fun g => by kernel_rfl)
noncomputable def X_is : Ctx := ctxL Tryz.prog plS3 [(36, Tryz.f36)] [((36, 2), loopSum L_is E_is (finX [.ret, .exit 0] st_is fu_is))]
theorem X_is_ok : CtxOk X_is := ctxL_ok mixed puS3 (fns_cons is_rIsStill fns_nil) (loops_one (by kernel_rfl) (by kernel_rfl) l_is)
def y_is (s : TCT cSt) : Option (Left' E_is) := iter st_is ((msT s).length + 1) (hd_is (stTo s) 0)
def T_is (s : TCT cSt) : TBo := bif isE .ret (y_is s) then .leaf ((valE .ret (y_is s)).1.1, ()) else bif isE (.exit 0) (y_is s) then .leaf (true, ()) else .fail
theorem q_rIsStill : PureOk Tryz.prog 36 s_isSt := q_by X_is_ok 7 (fun x => T_is x.1) (fun x => by kernel_rfl) fun x _ hw => by
  have hy : y_is x.1 = some (bif (msT x.1).any movB then rt_is else ex_is) := iter_bad (msT x.1) (dflt cMot) (hd_is (stTo x.1)) movB rt_is ex_is (wfl_len hw.1.1) (fun _ => rfl)
  have hq : (msT x.1).any movB = !stillB x.1 := by
    unfold stillB
    rw [← any_not restB]
    exact any_congr fun m _ => movB_eq m
  show (T_is x.1).sat (fun y => y = (stillB x.1, ()))
  unfold T_is
  rw [hy, hq]
  cases stillB x.1 <;> exact rfl
def plS4 : List (Nat × PureT) := (51, s_isSt) :: (36, s_isSt) :: plS3
theorem puS4 : PuOk Tryz.prog plS4 := puOk_cons is_sstill.plain q_sstill (puOk_cons is_rIsStill.plain q_rIsStill puS3)
end St
end V
end Go.Proofs.YtkiaifmbbnnliaaGreat
