import Derived.Test.YtkiaifmbbnnliaaGreatSd
import Derived.Test.YtkiaifmbbnnliaaGreatTV
import Derived.Test.YtkiaifmbbnnliaaGreatUj
import Derived.Test.YtkiaifmbbnnliaaGreatBa
import Derived.Test.YtkiaifmbbnnliaaGreatZd
import Derived.Test.YtkiaifmbbnnliaaGreatZe
namespace Go.Proofs.YtkiaifmbbnnliaaGreat
open Go.RowKit
namespace V
abbrev Ra : PureT := B4 [cPt, cPt, cI] [cPt, cI] (fun _ => true) (fun x => (((TwR x.1.1 x.1.2.1 x.2.1.1 x.2.1.2.1 x.2.2.1).1.1, (TwR x.1.1 x.1.2.1 x.2.1.1 x.2.1.2.1 x.2.2.1).1.2, ()), (TwR x.1.1 x.1.2.1 x.2.1.1 x.2.1.2.1 x.2.2.1).2, ()))
theorem Yu : A7 Tryz.prog 56 Ra := Aa7
namespace St
abbrev Bg : TC := .st [cI, cI, cI, cI, .b]
abbrev C1 : TC := .st [cI, cI, cI]
abbrev An : TC := .st [.s, cI, cI, cI, .sl Bg, Al, cI, cI, .sl C1]
abbrev cGr : TC := .st [An, .sl A3, Dz]
abbrev cSt : TC := .st [.sl Ai, .sl .b, cI, cI, cI]
abbrev cBl : TC := .st [cI, cPt, cI, cI]
abbrev cKn : TC := .st [cI, cI, cI, cI, cI]
theorem is_aa : FnIs Tryz.prog (132, Tryz.f132) := ⟨Tryz.func132, by kernel_rfl, by kernel_rfl⟩
theorem is_ab : FnIs Tryz.prog (89, Tryz.f89) := ⟨Tryz.func89, by kernel_rfl, by kernel_rfl⟩
theorem is_ac : FnIs Tryz.prog (135, Tryz.f135) := ⟨Tryz.func135, by kernel_rfl, by kernel_rfl⟩
theorem is_ad : FnIs Tryz.prog (90, Tryz.f90) := ⟨Tryz.func90, by kernel_rfl, by kernel_rfl⟩
theorem is_ae : FnIs Tryz.prog (138, Tryz.f138) := ⟨Tryz.func138, by kernel_rfl, by kernel_rfl⟩
theorem is_af : FnIs Tryz.prog (91, Tryz.f91) := ⟨Tryz.func91, by kernel_rfl, by kernel_rfl⟩
theorem is_ag : FnIs Tryz.prog (134, Tryz.f134) := ⟨Tryz.func134, by kernel_rfl, by kernel_rfl⟩
theorem is_ah : FnIs Tryz.prog (137, Tryz.f137) := ⟨Tryz.func137, by kernel_rfl, by kernel_rfl⟩
theorem is_ai : FnIs Tryz.prog (77, Tryz.f77) := ⟨Tryz.func77, by kernel_rfl, by kernel_rfl⟩
theorem is_aj : FnIs Tryz.prog (104, Tryz.f104) := ⟨Tryz.func104, by kernel_rfl, by kernel_rfl⟩
theorem is_ak : FnIs Tryz.prog (95, Tryz.f95) := ⟨Tryz.func95, by kernel_rfl, by kernel_rfl⟩
theorem is_al : FnIs Tryz.prog (50, Tryz.f50) := ⟨Tryz.func50, by kernel_rfl, by kernel_rfl⟩
def inR (x lo hi : Int) : Bool := decide (lo ≤ x) && decide (x ≤ hi)
abbrev Ls : PureT := B4 [cI, cI, cI] [.b] (fun _ => true) (fun x => (inR x.1 x.2.1 x.2.2.1, ()))
abbrev TBo := Tree (TCTs [.b])
def Pg (a : Bool) (t : TBo) : TBo := bif a then t else .leaf (false, ())
theorem Fc {a b : Bool} {t : TBo} (h : t.sat (fun y => y = (b, ()))) : (Pg a t).sat (fun y => y = (a && b, ())) := by
 unfold Pg
 cases a with
 | true => rw [Bool.true_and]; exact h
 | false => exact rfl
theorem Yv (b : Bool) : (Tree.leaf (b, ()) : TBo).sat (fun y => y = (b, ())) := rfl
theorem Kf : A7 Tryz.prog 132 Ls := B2 (Ad Ab A9 (fns_cons is_aa A2)) 3 (fun x => Pg (decide (x.2.1 ≤ x.1)) (.leaf (decide (x.1 ≤ x.2.2.1), ()))) (fun x => by kernel_rfl) fun _ _ _ => Fc (Yv _)
theorem Jy : A7 Tryz.prog 89 Ls := B2 (Ad Ab A9 (fns_cons is_ab A2)) 3 (fun x => Pg (decide (x.2.1 ≤ x.1)) (.leaf (decide (x.1 ≤ x.2.2.1), ()))) (fun x => by kernel_rfl) fun _ _ _ => Fc (Yv _)
def B7d : List (Nat × PureT) := [(132, Ls), (89, Ls)]
theorem Aq6 : Bu Tryz.prog B7d := A0 is_aa.plain Kf (A0 is_ab.plain Jy A9)
def F3 (h : TCT Bg) : Bool := inR h.1 0 4194304 && (inR h.2.1 0 4194304 && (inR h.2.2.1 2 32768 && ((Int.tmod h.2.2.1 2 == 0) && inR h.2.2.2.1 1 8192)))
def G5 (c : TCT C1) : Bool := inR c.1 0 65536 && (inR c.2.1 (-4096) 4096 && inR c.2.2.1 (-4096) 4096)
abbrev A0s : PureT := B4 [Bg] [.b] (fun _ => true) (fun x => (F3 x.1, ()))
abbrev A0t : PureT := B4 [C1] [.b] (fun _ => true) (fun x => (G5 x.1, ()))
def A0u (h : TCT Bg) : TBo := Pg (inR h.1 0 4194304) (Pg (inR h.2.1 0 4194304) (Pg (inR h.2.2.1 2 32768) (Pg (Int.tmod h.2.2.1 2 == 0) (.leaf (inR h.2.2.2.1 1 8192, ())))))
def A0v (c : TCT C1) : TBo := Pg (inR c.1 0 65536) (Pg (inR c.2.1 (-4096) 4096) (.leaf (inR c.2.2.1 (-4096) 4096, ())))
theorem U6 (h : TCT Bg) : (A0u h).sat (fun y => y = (F3 h, ())) := Fc (Fc (Fc (Fc (Yv _))))
theorem U7 (c : TCT C1) : (A0v c).sat (fun y => y = (G5 c, ())) := Fc (Fc (Yv _))
theorem A3h : A7 Tryz.prog 135 A0s := B2 (Ad Ab Aq6 (fns_cons is_ac A2)) 3 (fun x => A0u x.1) (fun x => by kernel_rfl) fun x _ _ => U6 x.1
theorem Aq7 : A7 Tryz.prog 90 A0s := B2 (Ad Ab Aq6 (fns_cons is_ad A2)) 3 (fun x => A0u x.1) (fun x => by kernel_rfl) fun x _ _ => U6 x.1
theorem A3i : A7 Tryz.prog 138 A0t := B2 (Ad Ab Aq6 (fns_cons is_ae A2)) 3 (fun x => A0v x.1) (fun x => by kernel_rfl) fun x _ _ => U7 x.1
theorem Ahi : A7 Tryz.prog 91 A0t := B2 (Ad Ab Aq6 (fns_cons is_af A2)) 3 (fun x => A0v x.1) (fun x => by kernel_rfl) fun x _ _ => U7 x.1
def Hs (m : TCT Ai) : Bool := m.2.1.1 == 0 && m.2.1.2.1 == 0
def Jq (b : TCT A3) : Bool := K5 b.1 b.2.1
abbrev B33 : PureT := B4 [Bg] [.b] (fun _ => true) (fun x => (!F3 x.1, ()))
abbrev B34 : PureT := B4 [C1] [.b] (fun _ => true) (fun x => (!G5 x.1, ()))
abbrev Awl : PureT := B4 [A3] [.b] (fun _ => true) (fun x => (!Jq x.1, ()))
abbrev Awm : PureT := B4 [Ai] [.b] (fun _ => true) (fun x => (!Hs x.1, ()))
abbrev Awn : PureT := B4 [cPt] [.b] (fun _ => true) (fun x => (!fpt x.1.1 x.1.2.1, ()))
theorem B7e : A7 Tryz.prog 134 B33 := B2 (Ad Ab (A0 is_ac.plain A3h A9) (fns_cons is_ag A2)) 3 (fun x => .leaf (!F3 x.1, ())) (fun x => by kernel_rfl) fun _ _ _ => rfl
theorem B7f : A7 Tryz.prog 137 B34 := B2 (Ad Ab (A0 is_ae.plain A3i A9) (fns_cons is_ah A2)) 3 (fun x => .leaf (!G5 x.1, ())) (fun x => by kernel_rfl) fun _ _ _ => rfl
theorem U8 (b : Bool) : (okE b != 0) = !b := by unfold okE; cases b <;> rfl
theorem B35 : A7 Tryz.prog 77 Awl := B2 (Ad Ab (A0 is_CheckBall.plain Su A9) (fns_cons is_ai A2)) 3 (fun x => .leaf (okE (K5 x.1.1 x.1.2.1) != 0, ())) (fun x => by kernel_rfl) fun x _ _ => by
 show (okE (K5 x.1.1 x.1.2.1) != 0, ()) = (!Jq x.1, ())
 rw [U8]; rfl
theorem B36 : A7 Tryz.prog 104 Awm := B2 (Ad Ab A9 (fns_cons is_aj A2)) 3 (fun x => .leaf (!(x.1.2.1.1 == 0 && (x.1.2.1.2.1 == 0 && true)), ())) (fun x => by kernel_rfl) fun x _ _ => by
 show (!(x.1.2.1.1 == 0 && (x.1.2.1.2.1 == 0 && true)), ()) = (!Hs x.1, ())
 rw [Bool.and_true]; rfl
theorem B37 : A7 Tryz.prog 95 Awn := B2 (Ad Ab (A0 is_al.plain Tu A9) (fns_cons is_ak A2)) 3 (fun x => .leaf (Q1 x.1.1 x.1.2.1 != 0, ())) (fun x => by kernel_rfl) fun x _ _ => by
 show (Q1 x.1.1 x.1.2.1 != 0, ()) = (!fpt x.1.1 x.1.2.1, ())
 unfold Q1
 cases fpt x.1.1 x.1.2.1 <;> rfl
def A0w : List (Nat × PureT) := [(134, B33), (137, B34), (77, Awl), (104, Awm), (95, Awn)]
theorem A3j : Bu Tryz.prog A0w := A0 is_ag.plain B7e (A0 is_ah.plain B7f (A0 is_ai.plain B35 (A0 is_aj.plain B36 (A0 is_ak.plain B37 A9))))
theorem is_am : FnIs Tryz.prog (172, Tryz.f172) := ⟨Tryz.func172, by kernel_rfl, by kernel_rfl⟩
theorem is_an : FnIs Tryz.prog (133, Tryz.f133) := ⟨Tryz.func133, by kernel_rfl, by kernel_rfl⟩
abbrev H0 : List SK := []
def D5 (k : SKTs H0) (x : TCT (Bg)) : Bool := !F3 x
noncomputable def Yw : Code := (A8 (bodyOf Tryz.f172)).getD 0 .skip
def Ii : Lay := { keys := [0, 1, 7, 8], ks := [.d (.sl (Bg)), .f 134 [] H0, .d cI, .d cI], bs := [], n := 19, nx := 1000, marks := [] }
def Aen : Lay := { keys := [4], ks := [.d cI], bs := [], n := 19, nx := 1000, marks := [] }
def Aeo : Lay := { keys := [], ks := [], bs := [], n := 19, nx := 1000, marks := [] }
def Hb : XE → Lay
 | .ret => Aen
 | _ => Aeo
def Yx (k : SKTs H0) (l : List (TCT (Bg))) (n i : Int) : Ii.T := ((l, ((), k), n, i, ()), ())
def Ph (i : Int) : A1 Hb := ⟨.ret, ((i, ()), ())⟩
def Pi : A1 Hb := ⟨.exit 0, ((), ())⟩
def J4 (k : SKTs H0) (l : List (TCT (Bg))) (n : Int) (x : TCT (Bg)) (i : Int) : Tree (Ii.T ⊕ A1 Hb) := bif D5 k x then .leaf (.inr (Ph i)) else .leaf (.inl (Yx k l n (W64 (i + 1))))
def Aep (k : SKTs H0) (l : List (TCT (Bg))) (n i : Int) : Tree (Ii.T ⊕ A1 Hb) :=
 bif decide (i < n) then bif decide (0 ≤ i ∧ i < (l.length : Int)) then J4 k l n (Aq l i.toNat (Ao (Bg))) i else .fail else .leaf (.inr Pi)
def Oh (g : Ii.T) : Tree (A1 Hb) :=
 .br (Mz g.1.2.2.1 g.1.2.2.2.1 g.1.1) (.br (g.1.1.any (D5 g.1.2.1.2)) (.leaf (Ph (g.1.1.findIdx (D5 g.1.2.1.2)))) (.leaf Pi)) .fail
theorem Ahj : Aj Tryz.prog 172 Yw (Ac Ii Hb Oh) := by
 refine Dc (X := ctx Tryz.prog A0w []) (Ad Ab A3j A2) 7 172 (fun _ => none) (fun _ _ f h => by simp at h) Ii Hb (fun e => by cases e <;> exact Nat.le_refl _) Oh (fun g => Aep g.1.2.1.2 g.1.1 g.1.2.2.1 g.1.2.2.2.1) (fun g => by kernel_rfl) ?_
 rintro ⟨⟨l, ⟨⟨⟩, k⟩, n, i, ⟨⟩⟩, ⟨⟩⟩ R hw hf
 obtain ⟨hf, h0⟩ := hf
 by_cases hc : n = (l.length : Int) ∧ i = 0
 ·obtain ⟨rfl, rfl⟩ := hc
  have hf := hf (decide_eq_true ⟨rfl, rfl⟩)
  refine Awf l (Ao (Bg)) (Fs hw.1.1) (fun n i _ => Yx k l n i) (fun x i (_ : Unit) => bif D5 k x then .inr (Ph i) else .inl ()) (fun _ => Pi) (fun _ => True) (fun x i _ => J4 k l l.length x i) (fun i _ => rfl) ?_ () trivial ?_
  ·intro i _ hi Q _ _ hw1 hQ
   show (J4 k l l.length l[i] i).sat Q
   unfold J4
   rw [hw1]
   cases hp : D5 k l[i] with
   | true => rw [hp] at hQ; exact hQ
   | false => rw [hp] at hQ; exact hQ trivial
  ·rw [R6 (D5 k) (fun i => Ph i) Pi l 0, Nat.zero_add]
   cases ha : l.any (D5 k) with
   | true => exact hf.1 ha
   | false => exact hf.2 ha
 ·exact (h0 (decide_eq_false hc)).elim
abbrev Ahk : PureT := Lj [.d (.sl (Bg)), .f 134 [] H0] [cI] (fun _ => true) (fun x => (bif x.1.any (D5 x.2.1.2) then (x.1.findIdx (D5 x.2.1.2) : Int) else -1, ()))
noncomputable def Ahl : Ctx := Hk Tryz.prog A0w [(172, Tryz.f172)] [((172, keyOf Yw), Ac Ii Hb Oh)]
theorem A3k : CtxOk Ahl := Bw Ab A3j (fns_cons is_am A2) (Bk rfl (by kernel_rfl) Ahj)
def A3l (k : SKTs H0) (l : List (TCT (Bg))) : Tree (Int × Unit) := bif Mz (l.length : Int) 0 l then bif l.any (D5 k) then .leaf ((l.findIdx (D5 k) : Int), ()) else .leaf (-1, ()) else .fail
theorem A3m (k : SKTs H0) (l : List (TCT (Bg))) : (A3l k l).sat (fun y => y = (bif l.any (D5 k) then (l.findIdx (D5 k) : Int) else -1, ())) := by
 refine R1 (decide_eq_true ⟨rfl, rfl⟩) ?_
 cases l.any (D5 k) <;> exact rfl
theorem Ahm : A7 Tryz.prog 172 Ahk := Te A3k 8 (fun x => A3l x.2.1.2 x.1) (fun x => by kernel_rfl) fun x _ _ => A3m _ _
abbrev A3n : PureT := Lj [.d (.sl (Bg)), .f 134 [] H0] [.b] (fun _ => true) (fun x => (x.1.any (D5 x.2.1.2), ()))
theorem A3o (k : SKTs H0) (l : List (TCT (Bg))) : (Tree.leaf (decide ((bif l.any (D5 k) then (l.findIdx (D5 k) : Int) else -1) ≥ 0), ()) : Tree (Bool × Unit)).sat (fun y => y = (l.any (D5 k), ())) := by
 rw [U5]; exact rfl
theorem Ahn : A7 Tryz.prog 133 A3n := Te (Ad Ab (A0 is_am.plain Ahm A9) (fns_cons is_an A2)) 8 (fun x => .leaf (decide ((bif x.1.any (D5 x.2.1.2) then (x.1.findIdx (D5 x.2.1.2) : Int) else -1) ≥ 0), ())) (fun x => by kernel_rfl) fun x _ _ => A3o _ _
theorem is_ao : FnIs Tryz.prog (173, Tryz.f173) := ⟨Tryz.func173, by kernel_rfl, by kernel_rfl⟩
theorem is_ap : FnIs Tryz.prog (136, Tryz.f136) := ⟨Tryz.func136, by kernel_rfl, by kernel_rfl⟩
abbrev H5 : List SK := []
def D6 (k : SKTs H5) (x : TCT (C1)) : Bool := !G5 x
noncomputable def Yy : Code := (A8 (bodyOf Tryz.f173)).getD 0 .skip
def Ij : Lay := { keys := [0, 1, 7, 8], ks := [.d (.sl (C1)), .f 137 [] H5, .d cI, .d cI], bs := [], n := 19, nx := 1000, marks := [] }
def Aeq : Lay := { keys := [4], ks := [.d cI], bs := [], n := 19, nx := 1000, marks := [] }
def Aer : Lay := { keys := [], ks := [], bs := [], n := 19, nx := 1000, marks := [] }
def Hc : XE → Lay
 | .ret => Aeq
 | _ => Aer
def Yz (k : SKTs H5) (l : List (TCT (C1))) (n i : Int) : Ij.T := ((l, ((), k), n, i, ()), ())
def Pj (i : Int) : A1 Hc := ⟨.ret, ((i, ()), ())⟩
def Pk : A1 Hc := ⟨.exit 0, ((), ())⟩
def J5 (k : SKTs H5) (l : List (TCT (C1))) (n : Int) (x : TCT (C1)) (i : Int) : Tree (Ij.T ⊕ A1 Hc) := bif D6 k x then .leaf (.inr (Pj i)) else .leaf (.inl (Yz k l n (W64 (i + 1))))
def Aes (k : SKTs H5) (l : List (TCT (C1))) (n i : Int) : Tree (Ij.T ⊕ A1 Hc) :=
 bif decide (i < n) then bif decide (0 ≤ i ∧ i < (l.length : Int)) then J5 k l n (Aq l i.toNat (Ao (C1))) i else .fail else .leaf (.inr Pk)
def Oi (g : Ij.T) : Tree (A1 Hc) :=
 .br (Mz g.1.2.2.1 g.1.2.2.2.1 g.1.1) (.br (g.1.1.any (D6 g.1.2.1.2)) (.leaf (Pj (g.1.1.findIdx (D6 g.1.2.1.2)))) (.leaf Pk)) .fail
theorem Aho : Aj Tryz.prog 173 Yy (Ac Ij Hc Oi) := by
 refine Dc (X := ctx Tryz.prog A0w []) (Ad Ab A3j A2) 7 173 (fun _ => none) (fun _ _ f h => by simp at h) Ij Hc (fun e => by cases e <;> exact Nat.le_refl _) Oi (fun g => Aes g.1.2.1.2 g.1.1 g.1.2.2.1 g.1.2.2.2.1) (fun g => by kernel_rfl) ?_
 rintro ⟨⟨l, ⟨⟨⟩, k⟩, n, i, ⟨⟩⟩, ⟨⟩⟩ R hw hf
 obtain ⟨hf, h0⟩ := hf
 by_cases hc : n = (l.length : Int) ∧ i = 0
 ·obtain ⟨rfl, rfl⟩ := hc
  have hf := hf (decide_eq_true ⟨rfl, rfl⟩)
  refine Awf l (Ao (C1)) (Fs hw.1.1) (fun n i _ => Yz k l n i) (fun x i (_ : Unit) => bif D6 k x then .inr (Pj i) else .inl ()) (fun _ => Pk) (fun _ => True) (fun x i _ => J5 k l l.length x i) (fun i _ => rfl) ?_ () trivial ?_
  ·intro i _ hi Q _ _ hw1 hQ
   show (J5 k l l.length l[i] i).sat Q
   unfold J5
   rw [hw1]
   cases hp : D6 k l[i] with
   | true => rw [hp] at hQ; exact hQ
   | false => rw [hp] at hQ; exact hQ trivial
  ·rw [R6 (D6 k) (fun i => Pj i) Pk l 0, Nat.zero_add]
   cases ha : l.any (D6 k) with
   | true => exact hf.1 ha
   | false => exact hf.2 ha
 ·exact (h0 (decide_eq_false hc)).elim
abbrev Ahp : PureT := Lj [.d (.sl (C1)), .f 137 [] H5] [cI] (fun _ => true) (fun x => (bif x.1.any (D6 x.2.1.2) then (x.1.findIdx (D6 x.2.1.2) : Int) else -1, ()))
noncomputable def Ahq : Ctx := Hk Tryz.prog A0w [(173, Tryz.f173)] [((173, keyOf Yy), Ac Ij Hc Oi)]
theorem A3p : CtxOk Ahq := Bw Ab A3j (fns_cons is_ao A2) (Bk rfl (by kernel_rfl) Aho)
def A3q (k : SKTs H5) (l : List (TCT (C1))) : Tree (Int × Unit) := bif Mz (l.length : Int) 0 l then bif l.any (D6 k) then .leaf ((l.findIdx (D6 k) : Int), ()) else .leaf (-1, ()) else .fail
theorem A3r (k : SKTs H5) (l : List (TCT (C1))) : (A3q k l).sat (fun y => y = (bif l.any (D6 k) then (l.findIdx (D6 k) : Int) else -1, ())) := by
 refine R1 (decide_eq_true ⟨rfl, rfl⟩) ?_
 cases l.any (D6 k) <;> exact rfl
theorem Ahr : A7 Tryz.prog 173 Ahp := Te A3p 8 (fun x => A3q x.2.1.2 x.1) (fun x => by kernel_rfl) fun x _ _ => A3r _ _
abbrev A3s : PureT := Lj [.d (.sl (C1)), .f 137 [] H5] [.b] (fun _ => true) (fun x => (x.1.any (D6 x.2.1.2), ()))
theorem A3t (k : SKTs H5) (l : List (TCT (C1))) : (Tree.leaf (decide ((bif l.any (D6 k) then (l.findIdx (D6 k) : Int) else -1) ≥ 0), ()) : Tree (Bool × Unit)).sat (fun y => y = (l.any (D6 k), ())) := by
 rw [U5]; exact rfl
theorem Ahs : A7 Tryz.prog 136 A3s := Te (Ad Ab (A0 is_ao.plain Ahr A9) (fns_cons is_ap A2)) 8 (fun x => .leaf (decide ((bif x.1.any (D6 x.2.1.2) then (x.1.findIdx (D6 x.2.1.2) : Int) else -1) ≥ 0), ())) (fun x => by kernel_rfl) fun x _ _ => A3t _ _
theorem is_aq : FnIs Tryz.prog (141, Tryz.f141) := ⟨Tryz.func141, by kernel_rfl, by kernel_rfl⟩
theorem is_ar : FnIs Tryz.prog (76, Tryz.f76) := ⟨Tryz.func76, by kernel_rfl, by kernel_rfl⟩
abbrev H6 : List SK := []
def D7 (k : SKTs H6) (x : TCT (A3)) : Bool := !Jq x
noncomputable def Z0 : Code := (A8 (bodyOf Tryz.f141)).getD 0 .skip
def Ik : Lay := { keys := [0, 1, 7, 8], ks := [.d (.sl (A3)), .f 77 [] H6, .d cI, .d cI], bs := [], n := 19, nx := 1000, marks := [] }
def Aet : Lay := { keys := [4], ks := [.d cI], bs := [], n := 19, nx := 1000, marks := [] }
def Aeu : Lay := { keys := [], ks := [], bs := [], n := 19, nx := 1000, marks := [] }
def Hd : XE → Lay
 | .ret => Aet
 | _ => Aeu
def Z1 (k : SKTs H6) (l : List (TCT (A3))) (n i : Int) : Ik.T := ((l, ((), k), n, i, ()), ())
def Pl (i : Int) : A1 Hd := ⟨.ret, ((i, ()), ())⟩
def Pm : A1 Hd := ⟨.exit 0, ((), ())⟩
def J6 (k : SKTs H6) (l : List (TCT (A3))) (n : Int) (x : TCT (A3)) (i : Int) : Tree (Ik.T ⊕ A1 Hd) := bif D7 k x then .leaf (.inr (Pl i)) else .leaf (.inl (Z1 k l n (W64 (i + 1))))
def Aev (k : SKTs H6) (l : List (TCT (A3))) (n i : Int) : Tree (Ik.T ⊕ A1 Hd) :=
 bif decide (i < n) then bif decide (0 ≤ i ∧ i < (l.length : Int)) then J6 k l n (Aq l i.toNat (Ao (A3))) i else .fail else .leaf (.inr Pm)
def Oj (g : Ik.T) : Tree (A1 Hd) :=
 .br (Mz g.1.2.2.1 g.1.2.2.2.1 g.1.1) (.br (g.1.1.any (D7 g.1.2.1.2)) (.leaf (Pl (g.1.1.findIdx (D7 g.1.2.1.2)))) (.leaf Pm)) .fail
theorem Aht : Aj Tryz.prog 141 Z0 (Ac Ik Hd Oj) := by
 refine Dc (X := ctx Tryz.prog A0w []) (Ad Ab A3j A2) 7 141 (fun _ => none) (fun _ _ f h => by simp at h) Ik Hd (fun e => by cases e <;> exact Nat.le_refl _) Oj (fun g => Aev g.1.2.1.2 g.1.1 g.1.2.2.1 g.1.2.2.2.1) (fun g => by kernel_rfl) ?_
 rintro ⟨⟨l, ⟨⟨⟩, k⟩, n, i, ⟨⟩⟩, ⟨⟩⟩ R hw hf
 obtain ⟨hf, h0⟩ := hf
 by_cases hc : n = (l.length : Int) ∧ i = 0
 ·obtain ⟨rfl, rfl⟩ := hc
  have hf := hf (decide_eq_true ⟨rfl, rfl⟩)
  refine Awf l (Ao (A3)) (Fs hw.1.1) (fun n i _ => Z1 k l n i) (fun x i (_ : Unit) => bif D7 k x then .inr (Pl i) else .inl ()) (fun _ => Pm) (fun _ => True) (fun x i _ => J6 k l l.length x i) (fun i _ => rfl) ?_ () trivial ?_
  ·intro i _ hi Q _ _ hw1 hQ
   show (J6 k l l.length l[i] i).sat Q
   unfold J6
   rw [hw1]
   cases hp : D7 k l[i] with
   | true => rw [hp] at hQ; exact hQ
   | false => rw [hp] at hQ; exact hQ trivial
  ·rw [R6 (D7 k) (fun i => Pl i) Pm l 0, Nat.zero_add]
   cases ha : l.any (D7 k) with
   | true => exact hf.1 ha
   | false => exact hf.2 ha
 ·exact (h0 (decide_eq_false hc)).elim
abbrev Ahu : PureT := Lj [.d (.sl (A3)), .f 77 [] H6] [cI] (fun _ => true) (fun x => (bif x.1.any (D7 x.2.1.2) then (x.1.findIdx (D7 x.2.1.2) : Int) else -1, ()))
noncomputable def Ahv : Ctx := Hk Tryz.prog A0w [(141, Tryz.f141)] [((141, keyOf Z0), Ac Ik Hd Oj)]
theorem A3u : CtxOk Ahv := Bw Ab A3j (fns_cons is_aq A2) (Bk rfl (by kernel_rfl) Aht)
def A3v (k : SKTs H6) (l : List (TCT (A3))) : Tree (Int × Unit) := bif Mz (l.length : Int) 0 l then bif l.any (D7 k) then .leaf ((l.findIdx (D7 k) : Int), ()) else .leaf (-1, ()) else .fail
theorem A3w (k : SKTs H6) (l : List (TCT (A3))) : (A3v k l).sat (fun y => y = (bif l.any (D7 k) then (l.findIdx (D7 k) : Int) else -1, ())) := by
 refine R1 (decide_eq_true ⟨rfl, rfl⟩) ?_
 cases l.any (D7 k) <;> exact rfl
theorem Ahw : A7 Tryz.prog 141 Ahu := Te A3u 8 (fun x => A3v x.2.1.2 x.1) (fun x => by kernel_rfl) fun x _ _ => A3w _ _
abbrev A3x : PureT := Lj [.d (.sl (A3)), .f 77 [] H6] [.b] (fun _ => true) (fun x => (x.1.any (D7 x.2.1.2), ()))
theorem A3y (k : SKTs H6) (l : List (TCT (A3))) : (Tree.leaf (decide ((bif l.any (D7 k) then (l.findIdx (D7 k) : Int) else -1) ≥ 0), ()) : Tree (Bool × Unit)).sat (fun y => y = (l.any (D7 k), ())) := by
 rw [U5]; exact rfl
theorem Ahx : A7 Tryz.prog 76 A3x := Te (Ad Ab (A0 is_aq.plain Ahw A9) (fns_cons is_ar A2)) 8 (fun x => .leaf (decide ((bif x.1.any (D7 x.2.1.2) then (x.1.findIdx (D7 x.2.1.2) : Int) else -1) ≥ 0), ())) (fun x => by kernel_rfl) fun x _ _ => A3y _ _
theorem is_as : FnIs Tryz.prog (149, Tryz.f149) := ⟨Tryz.func149, by kernel_rfl, by kernel_rfl⟩
theorem is_at : FnIs Tryz.prog (103, Tryz.f103) := ⟨Tryz.func103, by kernel_rfl, by kernel_rfl⟩
abbrev Jr : List SK := []
def Ed (k : SKTs Jr) (x : TCT (Ai)) : Bool := !Hs x
noncomputable def A3z : Code := (A8 (bodyOf Tryz.f149)).getD 0 .skip
def Kh : Lay := { keys := [0, 1, 7, 8], ks := [.d (.sl (Ai)), .f 104 [] Jr, .d cI, .d cI], bs := [], n := 19, nx := 1000, marks := [] }
def Ahy : Lay := { keys := [4], ks := [.d cI], bs := [], n := 19, nx := 1000, marks := [] }
def Ahz : Lay := { keys := [], ks := [], bs := [], n := 19, nx := 1000, marks := [] }
def J7 : XE → Lay
 | .ret => Ahy
 | _ => Ahz
def A40 (k : SKTs Jr) (l : List (TCT (Ai))) (n i : Int) : Kh.T := ((l, ((), k), n, i, ()), ())
def Tl (i : Int) : A1 J7 := ⟨.ret, ((i, ()), ())⟩
def Tm : A1 J7 := ⟨.exit 0, ((), ())⟩
def Ki (k : SKTs Jr) (l : List (TCT (Ai))) (n : Int) (x : TCT (Ai)) (i : Int) : Tree (Kh.T ⊕ A1 J7) := bif Ed k x then .leaf (.inr (Tl i)) else .leaf (.inl (A40 k l n (W64 (i + 1))))
def Ai0 (k : SKTs Jr) (l : List (TCT (Ai))) (n i : Int) : Tree (Kh.T ⊕ A1 J7) :=
 bif decide (i < n) then bif decide (0 ≤ i ∧ i < (l.length : Int)) then Ki k l n (Aq l i.toNat (Ao (Ai))) i else .fail else .leaf (.inr Tm)
def Rb (g : Kh.T) : Tree (A1 J7) :=
 .br (Mz g.1.2.2.1 g.1.2.2.2.1 g.1.1) (.br (g.1.1.any (Ed g.1.2.1.2)) (.leaf (Tl (g.1.1.findIdx (Ed g.1.2.1.2)))) (.leaf Tm)) .fail
theorem Aq8 : Aj Tryz.prog 149 A3z (Ac Kh J7 Rb) := by
 refine Dc (X := ctx Tryz.prog A0w []) (Ad Ab A3j A2) 7 149 (fun _ => none) (fun _ _ f h => by simp at h) Kh J7 (fun e => by cases e <;> exact Nat.le_refl _) Rb (fun g => Ai0 g.1.2.1.2 g.1.1 g.1.2.2.1 g.1.2.2.2.1) (fun g => by kernel_rfl) ?_
 rintro ⟨⟨l, ⟨⟨⟩, k⟩, n, i, ⟨⟩⟩, ⟨⟩⟩ R hw hf
 obtain ⟨hf, h0⟩ := hf
 by_cases hc : n = (l.length : Int) ∧ i = 0
 ·obtain ⟨rfl, rfl⟩ := hc
  have hf := hf (decide_eq_true ⟨rfl, rfl⟩)
  refine Awf l (Ao (Ai)) (Fs hw.1.1) (fun n i _ => A40 k l n i) (fun x i (_ : Unit) => bif Ed k x then .inr (Tl i) else .inl ()) (fun _ => Tm) (fun _ => True) (fun x i _ => Ki k l l.length x i) (fun i _ => rfl) ?_ () trivial ?_
  ·intro i _ hi Q _ _ hw1 hQ
   show (Ki k l l.length l[i] i).sat Q
   unfold Ki
   rw [hw1]
   cases hp : Ed k l[i] with
   | true => rw [hp] at hQ; exact hQ
   | false => rw [hp] at hQ; exact hQ trivial
  ·rw [R6 (Ed k) (fun i => Tl i) Tm l 0, Nat.zero_add]
   cases ha : l.any (Ed k) with
   | true => exact hf.1 ha
   | false => exact hf.2 ha
 ·exact (h0 (decide_eq_false hc)).elim
abbrev Aq9 : PureT := Lj [.d (.sl (Ai)), .f 104 [] Jr] [cI] (fun _ => true) (fun x => (bif x.1.any (Ed x.2.1.2) then (x.1.findIdx (Ed x.2.1.2) : Int) else -1, ()))
noncomputable def Aqa : Ctx := Hk Tryz.prog A0w [(149, Tryz.f149)] [((149, keyOf A3z), Ac Kh J7 Rb)]
theorem A89 : CtxOk Aqa := Bw Ab A3j (fns_cons is_as A2) (Bk rfl (by kernel_rfl) Aq8)
def Abh (k : SKTs Jr) (l : List (TCT (Ai))) : Tree (Int × Unit) := bif Mz (l.length : Int) 0 l then bif l.any (Ed k) then .leaf ((l.findIdx (Ed k) : Int), ()) else .leaf (-1, ()) else .fail
theorem A8a (k : SKTs Jr) (l : List (TCT (Ai))) : (Abh k l).sat (fun y => y = (bif l.any (Ed k) then (l.findIdx (Ed k) : Int) else -1, ())) := by
 refine R1 (decide_eq_true ⟨rfl, rfl⟩) ?_
 cases l.any (Ed k) <;> exact rfl
theorem Aqb : A7 Tryz.prog 149 Aq9 := Te A89 8 (fun x => Abh x.2.1.2 x.1) (fun x => by kernel_rfl) fun x _ _ => A8a _ _
abbrev Abi : PureT := Lj [.d (.sl (Ai)), .f 104 [] Jr] [.b] (fun _ => true) (fun x => (x.1.any (Ed x.2.1.2), ()))
theorem A8b (k : SKTs Jr) (l : List (TCT (Ai))) : (Tree.leaf (decide ((bif l.any (Ed k) then (l.findIdx (Ed k) : Int) else -1) ≥ 0), ()) : Tree (Bool × Unit)).sat (fun y => y = (l.any (Ed k), ())) := by
 rw [U5]; exact rfl
theorem Aqc : A7 Tryz.prog 103 Abi := Te (Ad Ab (A0 is_as.plain Aqb A9) (fns_cons is_at A2)) 8 (fun x => .leaf (decide ((bif x.1.any (Ed x.2.1.2) then (x.1.findIdx (Ed x.2.1.2) : Int) else -1) ≥ 0), ())) (fun x => by kernel_rfl) fun x _ _ => A8b _ _
theorem is_au : FnIs Tryz.prog (140, Tryz.f140) := ⟨Tryz.func140, by kernel_rfl, by kernel_rfl⟩
theorem is_av : FnIs Tryz.prog (175, Tryz.f175) := ⟨Tryz.func175, by kernel_rfl, by kernel_rfl⟩
theorem is_aw : FnIs Tryz.prog (195, Tryz.f195) := ⟨Tryz.func195, by kernel_rfl, by kernel_rfl⟩
theorem is_ax : FnIs Tryz.prog (92, Tryz.f92) := ⟨Tryz.func92, by kernel_rfl, by kernel_rfl⟩
abbrev kLw : List SK := [.d .s, .d cI, .d cI, .d cI, .d (.sl Bg), .d cI, .d cI, .d cI, .d cI, .d cI, .d (.sl C1)]
def Lm (x : SKTs kLw) : TCT An := (x.1, x.2.1, x.2.2.1, x.2.2.2.1, x.2.2.2.2.1, ((x.2.2.2.2.2.1, x.2.2.2.2.2.2.1, ()), x.2.2.2.2.2.2.2.1, ()), x.2.2.2.2.2.2.2.2.1, x.2.2.2.2.2.2.2.2.2.1, x.2.2.2.2.2.2.2.2.2.2.1, ())
def D8 (l : TCT An) : SKTs kLw := (l.1, l.2.1, l.2.2.1, l.2.2.2.1, l.2.2.2.2.1, l.2.2.2.2.2.1.1.1, l.2.2.2.2.2.1.1.2.1, l.2.2.2.2.2.1.2.1, l.2.2.2.2.2.2.1, l.2.2.2.2.2.2.2.1, l.2.2.2.2.2.2.2.2.1, ())
def Ak (l : TCT An) : List (TCT Bg) := l.2.2.2.2.1
def Jz (l : TCT An) : TCT Al := l.2.2.2.2.2.1
def dW (h : TCT Bg) : Int := W64 (W64 (Int.tdiv h.2.2.1 2) + h.2.2.2.1)
def Ny (x y r : Int) : TCT Al := ((x, y, ()), r, ())
def w2 (h : TCT Bg) : List (TCT Al) := bif h.2.2.2.2.1 then [Ny h.1 (W64 (h.2.1 - dW h)) h.2.2.2.1, Ny h.1 (W64 (h.2.1 + dW h)) h.2.2.2.1] else [Ny (W64 (h.1 - dW h)) h.2.1 h.2.2.2.1, Ny (W64 (h.1 + dW h)) h.2.1 h.2.2.2.1]
def Ce (l : TCT An) : List (TCT Al) := (Ak l).flatMap w2 ++ [Jz l]
noncomputable def B38 : Code := (A8 (bodyOf Tryz.f140)).getD 0 .skip
def Y1 : Lay := { keys := [1, 2, 7, 8, 9], ks := [.p 0 0 0 0, .o 26 Al, .d (.sl Bg), .d cI, .d cI], bs := [(0, 29, kLw)], n := 24, nx := 1000, marks := [] }
def B39 : Lay := { keys := [1, 2], ks := [.p 0 0 0 0, .o 26 Al], bs := [(0, 29, kLw)], n := 24, nx := 1000, marks := [] }
def A0x : XE → Lay := fun _ => B39
def Ai1 (x : SKTs kLw) (hs : List (TCT Bg)) (n : Int) (i : Int) (o : List (TCT Al)) : Y1.T := (((), o, hs, n, i, ()), (x, ()))
def Z2 (x : SKTs kLw) (o : List (TCT Al)) : A1 A0x := ⟨.exit 0, (((), o, ()), (x, ()))⟩
def A8c (x : SKTs kLw) (hs : List (TCT Bg)) (n i : Int) (o w : List (TCT Al)) : Tree (Y1.T ⊕ A1 A0x) := bif Ey o w 24 then .leaf (.inl (Ai1 x hs n (W64 (i + 1)) (o ++ w))) else .fail
def A0y (x : SKTs kLw) (hs : List (TCT Bg)) (n i : Int) (o : List (TCT Al)) (h : TCT Bg) : Tree (Y1.T ⊕ A1 A0x) :=
 bif h.2.2.2.2.1 then A8c x hs n i o [Ny (W64 (h.1 - 0)) (W64 (h.2.1 - dW h)) h.2.2.2.1, Ny (W64 (h.1 + 0)) (W64 (h.2.1 + dW h)) h.2.2.2.1]
 else A8c x hs n i o [Ny (W64 (h.1 - dW h)) (W64 (h.2.1 - 0)) h.2.2.2.1, Ny (W64 (h.1 + dW h)) (W64 (h.2.1 + 0)) h.2.2.2.1]
def A41 (g : Y1.T) : Tree (Y1.T ⊕ A1 A0x) :=
 bif decide (g.1.2.2.2.2.1 < g.1.2.2.2.1) then bif decide (0 ≤ g.1.2.2.2.2.1 ∧ g.1.2.2.2.2.1 < ((g.1.2.2.1 : List (TCT Bg)).length : Int)) then A0y g.2.1 g.1.2.2.1 g.1.2.2.2.1 g.1.2.2.2.2.1 g.1.2.1 (Aq g.1.2.2.1 (Int.toNat g.1.2.2.2.2.1) (Ao Bg)) else .fail else .leaf (.inr (Z2 g.2.1 g.1.2.1))
def Ai2 (g : Y1.T) : Nat := (g.1.2.2.1 : List (TCT Bg)).length + 1
noncomputable def B3a : Ctx := ctx Tryz.prog [] [(175, Tryz.f175), (195, Tryz.f195)]
theorem Ai3 : CtxOk B3a := Ad Ab A9 (fns_cons is_av (fns_cons is_aw A2))
theorem B7g : Aj Tryz.prog 140 B38 (Ac Y1 A0x (C3 [.exit 0] A41 Ai2)) := Ay Ai3 7 _ Y1 A0x (fun _ => Nat.le_refl _) [.exit 0] A41 Ai2 (fun g => by kernel_rfl)
noncomputable def B7h : Ctx := Hk Tryz.prog [] [(140, Tryz.f140)] [((140, 2), Ac Y1 A0x (C3 [.exit 0] A41 Ai2))]
theorem Aqd : CtxOk B7h := Bw Ab A9 (fns_cons is_au A2) (Bk (by kernel_rfl) (by kernel_rfl) B7g)
def Aqe (l : TCT An) : Option (A1 A0x) := iter A41 ((Ak l).length + 1) (Ai1 (D8 l) (Ak l) (Ak l).length 0 [])
abbrev TPo := Tree (TCTs [.sl Al])
def A8d (r : B39.T) : TPo := bif Ey r.1.2.1 [Jz (Lm r.2.1)] 24 then .leaf (r.1.2.1 ++ [Jz (Lm r.2.1)], ()) else .fail
def Ay4 (l : TCT An) : TPo := bif isE (.exit 0) (Aqe l) then A8d (C0 (.exit 0) (Aqe l)) else .fail
abbrev N1 : PureT := B4 [An] [.sl Al] (fun x => decide ((Ak x.1).length ≤ 1000)) (fun x => (Ce x.1, ()))
theorem Rc {α β E : Type} (w : α → List β) (ex : List β → E) : ∀ (l : List α) (i : Nat) (s : List β), Yt (fun _ x s => some (.inl (s ++ w x))) (fun s => some (ex s)) i l s = some (ex (s ++ l.flatMap w))
 | [], _, s => by simp [Yt]
 | x :: l, i, s => by simp only [Yt]; rw [Rc w ex l (i + 1)]; simp [List.append_assoc]
theorem A8e (h : TCT Bg) : (w2 h).length = 2 := by unfold w2; cases h.2.2.2.2.1 <;> rfl
theorem U9 (l : List (TCT Bg)) : (l.flatMap w2).length = 2 * l.length := by
 induction l with
 | nil => rfl
 | cons h l ih =>
  have e : ((h :: l).flatMap w2).length = (w2 h).length + (l.flatMap w2).length := by rw [List.flatMap_cons, List.length_append]
  rw [e, ih, A8e, List.length_cons]; omega
theorem Z3 {o w : List (TCT Al)} (h : o.length + w.length ≤ 4000) : Ey o w 24 = true := by
 rw [Ka]; exact decide_eq_true (by omega)
theorem Ay5 {h : TCT Bg} (hw : WFD Bg h) : W64 (h.1 - 0) = h.1 ∧ W64 (h.1 + 0) = h.1 ∧ W64 (h.2.1 - 0) = h.2.1 ∧ W64 (h.2.1 + 0) = h.2.1 := by
 obtain ⟨x, y, g, w, a, ⟨⟩⟩ := h
 obtain ⟨h1, h2, _⟩ := hw
 have h1 : -9223372036854775808 ≤ x ∧ x ≤ 9223372036854775807 := h1
 have h2 : -9223372036854775808 ≤ y ∧ y ≤ 9223372036854775807 := h2
 exact ⟨by rw [Int.sub_zero]; exact Bp h1.1 h1.2, by rw [Int.add_zero]; exact Bp h1.1 h1.2, by rw [Int.sub_zero]; exact Bp h2.1 h2.2, by rw [Int.add_zero]; exact Bp h2.1 h2.2⟩
theorem Aqf {l : TCT An} (hw : ∀ h ∈ Ak l, WFD Bg h) (hl : (Ak l).length ≤ 1000) : Aqe l = some (Z2 (D8 l) ((Ak l).flatMap w2)) := by
 unfold Aqe
 have key := G3 (st := A41) (Ak l) (fun i o => Ai1 (D8 l) (Ak l) (Ak l).length (i : Int) o) (fun _ h o => some (.inl (o ++ w2 h))) (fun o => some (Z2 (D8 l) o)) (fun i o => o.length = 2 * i)
  (fun i o hi hI => by
   simp only
   refine ⟨?_, by rw [List.length_append, hI, A8e]; omega⟩
   show (bif decide ((i : Int) < ((Ak l).length : Int)) then bif decide (0 ≤ (i : Int) ∧ (i : Int) < ((Ak l).length : Int)) then A0y (D8 l) (Ak l) (Ak l).length (i : Int) o (Aq (Ak l) (Int.toNat (i : Int)) (Ao Bg)) else .fail else .leaf (.inr (Z2 (D8 l) o))).run = _
   rw [decide_eq_true (show (i : Int) < ((Ak l).length : Int) by omega), decide_eq_true (show 0 ≤ (i : Int) ∧ (i : Int) < ((Ak l).length : Int) by omega), show Int.toNat (i : Int) = i by omega, E5 hi]
   obtain ⟨e1, e2, e3, e4⟩ := Ay5 (hw _ (List.getElem_mem hi))
   simp only [cond_true]
   unfold A0y w2 A8c
   rw [e1, e2, e3, e4, Bp (n := (i : Int) + 1) (by omega) (by omega)]
   cases (Ak l)[i].2.2.2.2.1 with
   | true =>
    simp only [cond_true]
    rw [Z3 (by simp only [List.length_cons, List.length_nil, hI]; omega)]
    rfl
   | false =>
    simp only [cond_false]
    rw [Z3 (by simp only [List.length_cons, List.length_nil, hI]; omega)]
    rfl)
  (fun o e hI he => by
   cases he
   show (bif decide (((Ak l).length : Int) < ((Ak l).length : Int)) then _ else Tree.leaf (Sum.inr (Z2 (D8 l) o)) : Tree (Y1.T ⊕ A1 A0x)).run = _
   rw [decide_eq_false (show ¬ ((Ak l).length : Int) < ((Ak l).length : Int) by omega)]
   rfl)
  (Ak l).length 0 [] (Z2 (D8 l) ((Ak l).flatMap w2)) ((Ak l).length + 1) (by omega) (by omega) rfl (by rw [List.drop_zero, Rc, List.nil_append])
 exact key
theorem Abj : A7 Tryz.prog 140 N1 := B2 Aqd 7 (fun x => Ay4 x.1) (fun x => by kernel_rfl) fun x hok hw => by
 have hl : (Ak x.1).length ≤ 1000 := of_decide_eq_true hok
 show (Ay4 x.1).sat _
 unfold Ay4
 rw [Aqf (Awg hw.1.2.2.2.2.1) hl]
 show (A8d (((), (Ak x.1).flatMap w2, ()), (D8 x.1, ()))).sat _
 unfold A8d
 simp only
 rw [Z3 (by rw [U9]; simp only [List.length_cons, List.length_nil]; omega)]
 exact rfl
noncomputable def B3b : Code := (A8 (bodyOf Tryz.f92)).getD 0 .skip
def Y3 : Lay := { keys := [1, 3, 4], ks := [.p 0 0 0 0, .o 26 Al, .d cI], bs := [(0, 29, kLw)], n := 73, nx := 1000, marks := [] }
def B3c : Lay := { keys := [1, 3], ks := [.p 0 0 0 0, .o 26 Al], bs := [(0, 29, kLw)], n := 73, nx := 1000, marks := [] }
def A0z : XE → Lay := fun _ => B3c
def Ai4 (x : SKTs kLw) (i : Int) (o : List (TCT Al)) : Y3.T := (((), o, i, ()), (x, ()))
def Z4 (x : SKTs kLw) (o : List (TCT Al)) : A1 A0z := ⟨.exit 0, (((), o, ()), (x, ()))⟩
def A8f (x : SKTs kLw) (i : Int) (o w : List (TCT Al)) : Tree (Y3.T ⊕ A1 A0z) := bif Ey o w 24 then .leaf (.inl (Ai4 x (W64 (i + 1)) (o ++ w))) else .fail
def A10 (x : SKTs kLw) (i : Int) (o : List (TCT Al)) (h : TCT Bg) : Tree (Y3.T ⊕ A1 A0z) :=
 bif h.2.2.2.2.1 then A8f x i o [Ny h.1 (W64 (h.2.1 - dW h)) h.2.2.2.1, Ny h.1 (W64 (h.2.1 + dW h)) h.2.2.2.1]
 else A8f x i o [Ny (W64 (h.1 - dW h)) h.2.1 h.2.2.2.1, Ny (W64 (h.1 + dW h)) h.2.1 h.2.2.2.1]
def A42 (g : Y3.T) : Tree (Y3.T ⊕ A1 A0z) :=
 bif decide (g.1.2.2.1 < ((g.2.1.2.2.2.2.1 : List (TCT Bg)).length : Int)) then bif decide (0 ≤ g.1.2.2.1 ∧ g.1.2.2.1 < ((g.2.1.2.2.2.2.1 : List (TCT Bg)).length : Int)) then A10 g.2.1 g.1.2.2.1 g.1.2.1 (Aq g.2.1.2.2.2.2.1 (Int.toNat g.1.2.2.1) (Ao Bg)) else .fail else .leaf (.inr (Z4 g.2.1 g.1.2.1))
def Ai5 (g : Y3.T) : Nat := (g.2.1.2.2.2.2.1 : List (TCT Bg)).length + 1
noncomputable def B3d : Ctx := ctx Tryz.prog [] []
theorem Ai6 : CtxOk B3d := Ad Ab A9 A2
theorem B7i : Aj Tryz.prog 92 B3b (Ac Y3 A0z (C3 [.exit 0] A42 Ai5)) := Ay Ai6 7 _ Y3 A0z (fun _ => Nat.le_refl _) [.exit 0] A42 Ai5 (fun g => by kernel_rfl)
noncomputable def B7j : Ctx := Hk Tryz.prog [] [(92, Tryz.f92)] [((92, 3), Ac Y3 A0z (C3 [.exit 0] A42 Ai5))]
theorem Aqg : CtxOk B7j := Bw Ab A9 (fns_cons is_ax A2) (Bk (by kernel_rfl) (by kernel_rfl) B7i)
def Aqh (l : TCT An) : Option (A1 A0z) := iter A42 ((Ak l).length + 1) (Ai4 (D8 l) 0 [])
def A8g (r : B3c.T) : TPo := bif Ey r.1.2.1 [Jz (Lm r.2.1)] 24 then .leaf (r.1.2.1 ++ [Jz (Lm r.2.1)], ()) else .fail
def Ay6 (l : TCT An) : TPo := bif isE (.exit 0) (Aqh l) then A8g (C0 (.exit 0) (Aqh l)) else .fail
theorem Aqi {l : TCT An} (hl : (Ak l).length ≤ 1000) : Aqh l = some (Z4 (D8 l) ((Ak l).flatMap w2)) := by
 unfold Aqh
 have key := G3 (st := A42) (Ak l) (fun i o => Ai4 (D8 l) (i : Int) o) (fun _ h o => some (.inl (o ++ w2 h))) (fun o => some (Z4 (D8 l) o)) (fun i o => o.length = 2 * i)
  (fun i o hi hI => by
   simp only
   refine ⟨?_, by rw [List.length_append, hI, A8e]; omega⟩
   show (bif decide ((i : Int) < ((Ak l).length : Int)) then bif decide (0 ≤ (i : Int) ∧ (i : Int) < ((Ak l).length : Int)) then A10 (D8 l) (i : Int) o (Aq (Ak l) (Int.toNat (i : Int)) (Ao Bg)) else .fail else .leaf (.inr (Z4 (D8 l) o))).run = _
   rw [decide_eq_true (show (i : Int) < ((Ak l).length : Int) by omega), decide_eq_true (show 0 ≤ (i : Int) ∧ (i : Int) < ((Ak l).length : Int) by omega), show Int.toNat (i : Int) = i by omega, E5 hi]
   simp only [cond_true]
   unfold A10 w2 A8f
   rw [Bp (n := (i : Int) + 1) (by omega) (by omega)]
   cases (Ak l)[i].2.2.2.2.1 with
   | true =>
    simp only [cond_true]
    rw [Z3 (by simp only [List.length_cons, List.length_nil, hI]; omega)]
    rfl
   | false =>
    simp only [cond_false]
    rw [Z3 (by simp only [List.length_cons, List.length_nil, hI]; omega)]
    rfl)
  (fun o e hI he => by
   cases he
   show (bif decide (((Ak l).length : Int) < ((Ak l).length : Int)) then _ else Tree.leaf (Sum.inr (Z4 (D8 l) o)) : Tree (Y3.T ⊕ A1 A0z)).run = _
   rw [decide_eq_false (show ¬ ((Ak l).length : Int) < ((Ak l).length : Int) by omega)]
   rfl)
  (Ak l).length 0 [] (Z4 (D8 l) ((Ak l).flatMap w2)) ((Ak l).length + 1) (by omega) (by omega) rfl (by rw [List.drop_zero, Rc, List.nil_append])
 exact key
theorem A43 : A7 Tryz.prog 92 N1 := B2 Aqg 7 (fun x => Ay6 x.1) (fun x => by kernel_rfl) fun x hok hw => by
 have hl : (Ak x.1).length ≤ 1000 := of_decide_eq_true hok
 show (Ay6 x.1).sat _
 unfold Ay6
 rw [Aqi hl]
 show (A8g (((), (Ak x.1).flatMap w2, ()), (D8 x.1, ()))).sat _
 unfold A8g
 simp only
 rw [Z3 (by rw [U9]; simp only [List.length_cons, List.length_nil]; omega)]
 exact rfl
theorem is_ay : FnIs Tryz.prog (131, Tryz.f131) := ⟨Tryz.func131, by kernel_rfl, by kernel_rfl⟩
theorem is_az : FnIs Tryz.prog (171, Tryz.f171) := ⟨Tryz.func171, by kernel_rfl, by kernel_rfl⟩
theorem is_aA : FnIs Tryz.prog (170, Tryz.f170) := ⟨Tryz.func170, by kernel_rfl, by kernel_rfl⟩
theorem is_aB : FnIs Tryz.prog (193, Tryz.f193) := ⟨Tryz.func193, by kernel_rfl, by kernel_rfl⟩
theorem is_aC : FnIs Tryz.prog (203, Tryz.f203) := ⟨Tryz.func203, by kernel_rfl, by kernel_rfl⟩
def A44 (r : Int) : Bool := (decide (r < 97) || decide (r > 122)) && (decide (r < 48) || decide (r > 57))
def Ai7 (r : Int) : TBo := bif decide (r < 97) then bif decide (r < 48) then .leaf (true, ()) else .leaf (decide (r > 57), ()) else bif decide (r > 122) then bif decide (r < 48) then .leaf (true, ()) else .leaf (decide (r > 57), ()) else .leaf (false, ())
abbrev Ai8 : PureT := B4 [.i .i32] [.b] (fun _ => true) (fun x => (A44 x.1, ()))
theorem Ai9 (r : Int) : (Ai7 r).sat (fun y => y = (A44 r, ())) := by
 unfold Ai7 A44
 cases decide (r < 97) <;> cases decide (r > 122) <;> cases decide (r < 48) <;> exact rfl
theorem Aia : A7 Tryz.prog 171 Ai8 := B2 (Ad Ab A9 (fns_cons is_az A2)) 3 (fun x => Ai7 x.1) (fun x => by kernel_rfl) fun x _ _ => Ai9 x.1
def B3e : List (Nat × PureT) := [(171, Ai8)]
theorem B7k : Bu Tryz.prog B3e := A0 is_az.plain Aia A9
def nmT (t : ByteArray) : Nat → Nat → TBo
 | 0, _ => .fail
 | n + 1, pos => bif Nat.ble (pos + 1) t.size then
   bif G4 .i64 (pos : Int) && G4 .i32 ((Utf8.decode t pos).1 : Int) then
    bif A44 ((Utf8.decode t pos).1 : Int) == true then .leaf (!decide ((pos : Int) ≥ 0), ()) else nmT t n (pos + (Utf8.decode t pos).2)
   else .fail
  else .leaf (!decide ((-1 : Int) ≥ 0), ())
def A11 (t : ByteArray) : TBo := bif G4 .i64 (t.size : Int) then bif decide ((t.size : Int) ≥ 1) then bif G4 .i64 (t.size : Int) then bif decide ((t.size : Int) ≤ 20) then nmT t 21 0 else .leaf (false, ()) else .fail else .leaf (false, ()) else .fail
noncomputable def B3f : Ctx := Ahh 21 Tryz.prog B3e [(131, Tryz.f131), (170, Tryz.f170), (193, Tryz.f193), (203, Tryz.f203)]
theorem Aqj : CtxOk B3f := R7 Ab B7k (fns_cons is_ay (fns_cons is_aA (fns_cons is_aB (fns_cons is_aC A2))))
theorem Aew (t : ByteArray) : Ch B3f 12 (.fn 131) [.val (.string t)] Bl 0 (Hn Tryz.prog [.b]) = A11 t := by kernel_rfl
def Ck (t : ByteArray) : List UInt8 := t.data.toList
def Rd (b : UInt8) : Bool := A44 ((b.toNat : Nat) : Int)
def Il (t : ByteArray) : Bool := decide (1 ≤ t.size ∧ t.size ≤ 20) && !(Ck t).any Rd
theorem N2 (t : ByteArray) : (Ck t).length = t.size := Array.length_toList
theorem Aex {n : Int} (h : 0 ≤ n) (h2 : n ≤ 9223372036854775807) : G4 .i64 n = true := by
 unfold G4
 rw [decide_eq_true (show Hg .i64 ≤ n by simp only [Hg]; omega), decide_eq_true (show n ≤ As .i64 by simp only [As]; omega)]; rfl
theorem B3g {n : Int} (h : 0 ≤ n) (h2 : n ≤ 2147483647) : G4 .i32 n = true := by
 unfold G4
 rw [decide_eq_true (show Hg .i32 ≤ n by simp only [Hg]; omega), decide_eq_true (show n ≤ As .i32 by simp only [As]; omega)]; rfl
theorem Ay7 {t : ByteArray} {i : Nat} (h : i < t.size) : t.get! i = (Ck t)[i]'(by rw [N2]; exact h) := by
 have h' : i < t.data.size := h
 show t.data[i]! = _
 rw [getElem!_pos t.data i h']
 simp [Ck]
theorem Ay8 {t : ByteArray} {i : Nat} (h : (t.get! i).toNat < 128) : Utf8.decode t i = ((t.get! i).toNat, 1) := by
 unfold Utf8.decode
 simp only [Nat.add_zero]
 rw [if_pos h]
theorem Ay9 {t : ByteArray} {i : Nat} (h : ¬ (t.get! i).toNat < 128) : 128 ≤ (Utf8.decode t i).1 ∧ (Utf8.decode t i).1 ≤ 2100000 := by
 have hb : (t.get! i).toNat < 256 := (t.get! i).toNat_lt
 unfold Utf8.decode
 simp only [Nat.add_zero]
 rw [if_neg h]
 have m1 := Nat.mod_lt (t.get! (i + 1)).toNat (show 0 < 64 by omega)
 have m2 := Nat.mod_lt (t.get! (i + 2)).toNat (show 0 < 64 by omega)
 have m3 := Nat.mod_lt (t.get! (i + 3)).toNat (show 0 < 64 by omega)
 have r : 128 ≤ Utf8.runeError ∧ Utf8.runeError ≤ 2100000 := by decide
 split
 ·split
  ·rename_i hc
   simp only
   omega
  ·exact r
 ·split
  ·split
   ·rename_i hc
    simp only [ge_iff_le, Bool.and_eq_true, decide_eq_true_eq] at hc
    simp only
    omega
   ·exact r
  ·split
   ·split
    ·rename_i hc
     simp only [ge_iff_le, Bool.and_eq_true, decide_eq_true_eq] at hc
     simp only
     omega
    ·exact r
   ·exact r
theorem Aib {r : Nat} (h : 128 ≤ r) : A44 (r : Int) = true := by
 unfold A44
 rw [decide_eq_true (show (r : Int) > 122 by omega), decide_eq_true (show (r : Int) > 57 by omega)]
 simp
theorem Aic {t : ByteArray} (hs : t.size ≤ 20) : ∀ (n pos : Nat), pos ≤ t.size → t.size - pos < n → nmT t n pos = .leaf (!((Ck t).drop pos).any Rd, ())
 | 0, _, _, h => absurd h (Nat.not_lt_zero _)
 | n + 1, pos, hp, hn => by
  unfold nmT
  by_cases hlt : pos < t.size
  ·have hb : Nat.ble (pos + 1) t.size = true := by rw [Nat.ble_eq]; omega
   have hd : (Ck t).drop pos = (Ck t)[pos]'(by rw [N2]; exact hlt) :: (Ck t).drop (pos + 1) := List.drop_eq_getElem_cons _
   rw [hb, cond_true, hd, List.any_cons, ← Ay7 hlt]
   by_cases h8 : (t.get! pos).toNat < 128
   ·rw [Ay8 h8]
    simp only
    have hk : (G4 .i64 (pos : Int) && G4 .i32 (((t.get! pos).toNat : Nat) : Int)) = true := by
     rw [Aex (by omega) (by omega), B3g (by omega) (by omega)]; rfl
    rw [hk, cond_true]
    show (bif Rd (t.get! pos) == true then _ else _ : TBo) = _
    cases hbd : Rd (t.get! pos) with
    | true =>
     rw [decide_eq_true (show (pos : Int) ≥ 0 by omega)]
     rfl
    | false =>
     show nmT t n (pos + 1) = _
     rw [Aic hs n (pos + 1) (by omega) (by omega), Bool.false_or]
   ·obtain ⟨h1, h2⟩ := Ay9 h8
    have hk : (G4 .i64 (pos : Int) && G4 .i32 (((Utf8.decode t pos).1 : Nat) : Int)) = true := by
     rw [Aex (by omega) (by omega), B3g (by omega) (by omega)]; rfl
    have hbu : Rd (t.get! pos) = true := Aib (by omega)
    rw [hk, cond_true, Aib h1, hbu, decide_eq_true (show (pos : Int) ≥ 0 by omega)]
    rfl
  ·have hb : Nat.ble (pos + 1) t.size = false := by
    cases h : Nat.ble (pos + 1) t.size with
    | false => rfl
    | true => rw [Nat.ble_eq] at h; omega
   rw [hb, cond_false, List.drop_eq_nil_of_le (by rw [N2]; omega)]
   rfl
theorem Aey {t : ByteArray} (h64 : (t.size : Int) ≤ As .i64) : (A11 t).sat (fun y => y = (Il t, ())) := by
 unfold A11 Il
 have hk : G4 .i64 (t.size : Int) = true := Aex (by omega) (by simp only [As] at h64; exact h64)
 rw [hk]
 simp only [cond_true]
 by_cases h1 : 1 ≤ t.size
 ·rw [decide_eq_true (show (t.size : Int) ≥ 1 by omega)]
  by_cases h2 : t.size ≤ 20
  ·rw [decide_eq_true (show (t.size : Int) ≤ 20 by omega), decide_eq_true (show 1 ≤ t.size ∧ t.size ≤ 20 from ⟨h1, h2⟩), cond_true, cond_true, Aic h2 21 0 (by omega) (by omega)]
   exact rfl
  ·rw [decide_eq_false (show ¬ (t.size : Int) ≤ 20 by omega), decide_eq_false (show ¬ (1 ≤ t.size ∧ t.size ≤ 20) from fun h => h2 h.2)]
   exact rfl
 ·rw [decide_eq_false (show ¬ (t.size : Int) ≥ 1 by omega), decide_eq_false (show ¬ (1 ≤ t.size ∧ t.size ≤ 20) from fun h => h1 h.1)]
  exact rfl
theorem is_aD : FnIs Tryz.prog (88, Tryz.f88) := ⟨Tryz.func88, by kernel_rfl, by kernel_rfl⟩
abbrev A12 : PureT := B4 [.s] [.b] (fun x => decide ((x.1.size : Int) ≤ As .i64)) (fun x => (Il x.1, ()))
theorem Aqk : A7 Tryz.prog 131 A12 := B2 Aqj 12 (fun x => A11 x.1) (fun x => Aew x.1) fun x hok _ => Aey (of_decide_eq_true hok)
noncomputable def B3h : Code := (A8 (bodyOf Tryz.f88)).getD 0 .skip
def A8h : Lay := { keys := [0, 3], ks := [.d .s, .d cI], bs := [], n := 41, nx := 1000, marks := [] }
def B7l : Lay := { keys := [], ks := [], bs := [], n := 41, nx := 1000, marks := [] }
def B3i : Lay := { keys := [2], ks := [.d .b], bs := [], n := 41, nx := 1000, marks := [] }
def A8i : XE → Lay := fun e => match e with | .ret => B3i | _ => B7l
def Z5 (t : ByteArray) (i : Int) : A8h.T := ((t, i, ()), ())
def Ua : A1 A8i := ⟨.ret, ((false, ()), ())⟩
def A45 : A1 A8i := ⟨.exit 0, ((), ())⟩
abbrev TNm := Tree (A8h.T ⊕ A1 A8i)
def byI (t : ByteArray) (i : Int) : Int := ((((t.data.toList.getD (Int.toNat i) 0).toNat : Nat)) : Int)
def inI (t : ByteArray) (i : Int) (k : TNm) : TNm := bif decide (0 ≤ i ∧ i < (t.size : Int)) then k else .fail
def A8j (t : ByteArray) (i : Int) : TNm := inI t i (bif decide (byI t i ≥ 48) then inI t i (bif !decide (byI t i ≤ 57) then .leaf (.inr Ua) else .leaf (.inl (Z5 t (W64 (i + 1))))) else .leaf (.inr Ua))
def Uk (t : ByteArray) (i : Int) : TNm :=
 bif G4 .i64 (t.size : Int) then bif decide (i < (t.size : Int)) then
  inI t i (bif decide (byI t i ≥ 97) then inI t i (bif decide (byI t i ≤ 122) then .leaf (.inl (Z5 t (W64 (i + 1)))) else A8j t i) else A8j t i)
 else .leaf (.inr A45) else .fail
def Z6 (g : A8h.T) : TNm := Uk g.1.1 g.1.2.1
def Aid (g : A8h.T) : Nat := (Ck g.1.1).length + 1
noncomputable def B3j : Ctx := ctx Tryz.prog [] []
theorem Aie : CtxOk B3j := Ad Ab A9 A2
theorem B7m : Aj Tryz.prog 88 B3h (Ac A8h A8i (C3 [.ret, .exit 0] Z6 Aid)) := Ay Aie 7 _ A8h A8i (fun e => by cases e <;> exact Nat.le_refl _) [.ret, .exit 0] Z6 Aid (fun g => by kernel_rfl)
noncomputable def B7n : Ctx := Hk Tryz.prog [] [(88, Tryz.f88)] [((88, 4), Ac A8h A8i (C3 [.ret, .exit 0] Z6 Aid))]
theorem Aql : CtxOk B7n := Bw Ab A9 (fns_cons is_aD A2) (Bk (by kernel_rfl) (by kernel_rfl) B7m)
def Aif (t : ByteArray) : Option (A1 A8i) := iter Z6 ((Ck t).length + 1) (Z5 t 0)
def Aya (t : ByteArray) : TBo := bif G4 .i64 (t.size : Int) then bif decide ((t.size : Int) < 1) then .leaf (false, ()) else bif G4 .i64 (t.size : Int) then bif decide ((t.size : Int) > 20) then .leaf (false, ()) else
 bif isE .ret (Aif t) then .leaf ((C0 .ret (Aif t)).1.1, ()) else bif isE (.exit 0) (Aif t) then .leaf (true, ()) else .fail else .fail else .fail
theorem Ayb {t : ByteArray} {i : Nat} (h : i < (Ck t).length) : byI t (i : Int) = ((((Ck t)[i]).toNat : Nat) : Int) := by
 unfold byI
 rw [show Int.toNat (i : Int) = i by omega]
 show ((((Ck t).getD i 0).toNat : Nat) : Int) = _
 rw [List.getD_eq_getElem?_getD, List.getElem?_eq_getElem h]
 rfl
theorem Aqm {t : ByteArray} (h64 : (t.size : Int) ≤ As .i64) : Aif t = some (bif (Ck t).any Rd then Ua else A45) := by
 have h64' : (t.size : Int) ≤ 9223372036854775807 := h64
 have hlen := N2 t
 unfold Aif
 have key := G3 (st := Z6) (Ck t) (fun i (_ : Unit) => Z5 t (i : Int)) (fun _ b _ => bif Rd b then some (.inr Ua) else some (.inl ())) (fun _ => some A45) (fun _ _ => True)
  (fun i s hi _ => by
   have hI : decide (0 ≤ (i : Int) ∧ (i : Int) < (t.size : Int)) = true := decide_eq_true (by omega)
   have hrun : (Z6 (Z5 t (i : Int))).run = some (bif Rd (Ck t)[i] then .inr Ua else .inl (Z5 t ((i + 1 : Nat) : Int))) := by
    show (Uk t (i : Int)).run = _
    unfold Uk A8j inI Rd A44
    rw [Aex (by omega) h64', decide_eq_true (show (i : Int) < (t.size : Int) by omega), hI, Ayb hi, Bp (n := (i : Int) + 1) (by omega) (by omega)]
    generalize ((((Ck t)[i]).toNat : Nat) : Int) = b
    by_cases h1 : b < 97
    ·rw [decide_eq_true h1, decide_eq_false (show ¬ b ≥ 97 by omega)]
     by_cases h2 : b < 48
     ·rw [decide_eq_true h2, decide_eq_false (show ¬ b ≥ 48 by omega)]; simp; rfl
     ·rw [decide_eq_false h2, decide_eq_true (show b ≥ 48 by omega)]
      by_cases h3 : b > 57
      ·rw [decide_eq_true h3, decide_eq_false (show ¬ b ≤ 57 by omega)]; simp; rfl
      ·rw [decide_eq_false h3, decide_eq_true (show b ≤ 57 by omega)]; simp; rfl
    ·rw [decide_eq_false h1, decide_eq_true (show b ≥ 97 by omega)]
     by_cases h2 : b > 122
     ·rw [decide_eq_true h2, decide_eq_false (show ¬ b ≤ 122 by omega), decide_eq_false (show ¬ b < 48 by omega), decide_eq_true (show b ≥ 48 by omega), decide_eq_true (show b > 57 by omega), decide_eq_false (show ¬ b ≤ 57 by omega)]; simp; rfl
     ·rw [decide_eq_false h2, decide_eq_true (show b ≤ 122 by omega)]; simp; rfl
   cases hb : Rd (Ck t)[i] with
   | true =>
    rw [hb] at hrun
    simp only [cond_true]
    exact hrun
   | false =>
    rw [hb] at hrun
    simp only [cond_false]
    exact ⟨hrun, trivial⟩)
  (fun s e _ he => by
   cases he
   show (Uk t (((Ck t).length : Nat) : Int)).run = _
   unfold Uk
   rw [Aex (by omega) h64', decide_eq_false (show ¬ (((Ck t).length : Nat) : Int) < (t.size : Int) by omega)]
   rfl)
  (Ck t).length 0 () (bif (Ck t).any Rd then Ua else A45) ((Ck t).length + 1) (by omega) (by omega) trivial (by rw [List.drop_zero]; exact R8 Rd (fun _ => Ua) A45 _ 0)
 exact key
theorem Aqn {t : ByteArray} (h64 : (t.size : Int) ≤ As .i64) : (Aya t).sat (fun y => y = (Il t, ())) := by
 unfold Aya Il
 rw [Aex (by omega) (show (t.size : Int) ≤ 9223372036854775807 from h64), Aqm h64]
 simp only [cond_true]
 by_cases h1 : 1 ≤ t.size
 ·rw [decide_eq_false (show ¬ (t.size : Int) < 1 by omega)]
  by_cases h2 : t.size ≤ 20
  ·rw [decide_eq_false (show ¬ (t.size : Int) > 20 by omega), decide_eq_true (show 1 ≤ t.size ∧ t.size ≤ 20 from ⟨h1, h2⟩)]
   cases (Ck t).any Rd <;> exact rfl
  ·rw [decide_eq_true (show (t.size : Int) > 20 by omega), decide_eq_false (show ¬ (1 ≤ t.size ∧ t.size ≤ 20) from fun h => h2 h.2)]
   exact rfl
 ·rw [decide_eq_true (show (t.size : Int) < 1 by omega), decide_eq_false (show ¬ (1 ≤ t.size ∧ t.size ≤ 20) from fun h => h1 h.1)]
  exact rfl
theorem Aqo : A7 Tryz.prog 88 A12 := B2 Aql 7 (fun x => Aya x.1) (fun x => by kernel_rfl) fun x hok _ => Aqn (of_decide_eq_true hok)
theorem is_aE : FnIs Tryz.prog (174, Tryz.f174) := ⟨Tryz.func174, by kernel_rfl, by kernel_rfl⟩
theorem is_aF : FnIs Tryz.prog (188, Tryz.f188) := ⟨Tryz.func188, by kernel_rfl, by kernel_rfl⟩
theorem is_aG : FnIs Tryz.prog (111, Tryz.f111) := ⟨Tryz.func111, by kernel_rfl, by kernel_rfl⟩
theorem is_aH : FnIs Tryz.prog (194, Tryz.f194) := ⟨Tryz.func194, by kernel_rfl, by kernel_rfl⟩
theorem is_aI : FnIs Tryz.prog (204, Tryz.f204) := ⟨Tryz.func204, by kernel_rfl, by kernel_rfl⟩
theorem is_aJ : FnIs Tryz.prog (139, Tryz.f139) := ⟨Tryz.func139, by kernel_rfl, by kernel_rfl⟩
def Aqp (x y : Int) : Int := bif decide (x < y) then -1 else bif decide (x > y) then 1 else 0
def cdE (a : TCT Al) : Int := Ro a.1.1 a.1.2.1 a.2.1
def sqD (a b : TCT Al) : Int := W64 (W64 (W64 (b.1.1 - a.1.1) * W64 (b.1.1 - a.1.1)) + W64 (W64 (b.1.2.1 - a.1.2.1) * W64 (b.1.2.1 - a.1.2.1)))
def srD (a b : TCT Al) : Int := W64 (W64 (a.2.1 + b.2.1) * W64 (a.2.1 + b.2.1))
def Aez (a b : TCT Al) : Int := bif cdE a == 0 && cdE b == 0 then Aqp (sqD a b) (srD a b) else 0
def Ayc (a b : TCT Al) : Int := bif cdE a == 0 && cdE b == 0 then 0 else 2
abbrev Abk : PureT := B4 [Al, Al] [cI, cI] (fun _ => true) (fun x => (Aez x.1 x.2.1, Ayc x.1 x.2.1, ()))
abbrev TTo := Tree (TCTs [cI, cI])
def Awo (x y : Int) : TTo := bif x != x then bif y != y then .leaf (0, 0, ()) else .leaf (-1, 0, ()) else bif y != y then .leaf (1, 0, ()) else bif decide (x < y) then .leaf (-1, 0, ()) else bif decide (x > y) then .leaf (1, 0, ()) else .leaf (0, 0, ())
def A13 (a b : TCT Al) : TTo := bif cdE a != 0 then .leaf (0, 2, ()) else bif cdE b != 0 then .leaf (0, 2, ()) else Awo (sqD a b) (srD a b)
theorem A8k (a b : TCT Al) : (A13 a b).sat (fun y => y = (Aez a b, Ayc a b, ())) := by
 unfold A13 Aez Ayc Awo Aqp
 rw [bne_self_eq_false, bne_self_eq_false]
 have e : ∀ n : Int, (n != 0) = !(n == 0) := fun _ => rfl
 rw [e, e]
 cases cdE a == 0 <;> cases cdE b == 0 <;> try exact rfl
 cases decide (sqD a b < srD a b) <;> cases decide (sqD a b > srD a b) <;> exact rfl
theorem Aqq : A7 Tryz.prog 174 Abk := B2 (Ad Ab (A0 is_aF.plain Sr A9) (fns_cons is_aE (fns_cons is_aG (fns_cons is_aH (fns_cons is_aI A2))))) 5 (fun x => A13 x.1 x.2.1) (fun x => by kernel_rfl) fun x _ _ => A8k _ _
def Ayd : List (Nat × PureT) := [(174, Abk), (132, Ls)]
theorem B3k : Bu Tryz.prog Ayd := A0 is_aE.plain Aqq (A0 is_aa.plain Kf A9)
noncomputable def Abl : Code := (A8 (bodyOf Tryz.f139)).getD 0 .skip
noncomputable def Abm : Code := (A8 (bodyOf Tryz.f139)).getD 1 .skip
abbrev kD3 : List SK := [.d cI, .d cI, .d cI]
def d3 (d : SKTs kD3) : TCT Al := ((d.1, d.2.1, ()), d.2.2.1, ())
def B3l (d : TCT Al) : TCT Al := ((d.1.1, d.1.2.1, ()), d.2.1, ())
def toD (d : TCT Al) : SKTs kD3 := (d.1.1, d.1.2.1, d.2.1, ())
def Y4 : Lay := { keys := [1, 2, 6, 11, 12, 13, 46, 47, 48], ks := [.d (.sl Al), .p 0 0 0 0, .p 1000 0 0 0, .d (.sl Al), .d cI, .d cI, .d (.sl Al), .d cI, .d cI], bs := [(0, 29, kLw), (1000, 26, kD3)], n := 62, nx := 2000, marks := [] }
def B3m : Lay := { keys := [1, 2, 11, 12, 13], ks := [.d (.sl Al), .p 0 0 0 0, .d (.sl Al), .d cI, .d cI], bs := [(0, 29, kLw)], n := 62, nx := 2000, marks := [] }
def Awp : Lay := { keys := [4], ks := [.d .b], bs := [], n := 62, nx := 2000, marks := [] }
def Ul : XE → Lay := fun e => match e with | .ret => Awp | _ => B3m
def Um : Lay := { keys := [1, 2, 11, 12, 13], ks := [.d (.sl Al), .p 0 0 0 0, .d (.sl Al), .d cI, .d cI], bs := [(0, 29, kLw)], n := 62, nx := 1000, marks := [] }
def B7o : Lay := { keys := [], ks := [], bs := [], n := 62, nx := 2000, marks := [] }
def A46 : XE → Lay := fun e => match e with | .ret => Awp | _ => B7o
def Un (x : SKTs kLw) (d : SKTs kD3) (p q : List (TCT Al)) (n i : Int) (r : List (TCT Al)) (m k : Int) : Y4.T := ((p, (), (), q, n, i, r, m, k, ()), (x, d, ()))
def Si : A1 Ul := ⟨.ret, ((false, ()), ())⟩
def Sj (x : SKTs kLw) (p q : List (TCT Al)) (n i : Int) : A1 Ul := ⟨.exit 2, ((p, (), q, n, i, ()), (x, ()))⟩
def Uo (g : Y4.T) : Tree (Y4.T ⊕ A1 Ul) :=
 bif decide (g.1.2.2.2.2.2.2.2.2.1 < g.1.2.2.2.2.2.2.2.1) then bif decide (0 ≤ g.1.2.2.2.2.2.2.2.2.1 ∧ g.1.2.2.2.2.2.2.2.2.1 < ((g.1.2.2.2.2.2.2.1 : List (TCT Al)).length : Int)) then
  bif decide (Aez (d3 g.2.2.1) (B3l (Aq g.1.2.2.2.2.2.2.1 (Int.toNat g.1.2.2.2.2.2.2.2.2.1) (Ao Al))) < 0) then .leaf (.inr Si) else .leaf (.inl (Un g.2.1 g.2.2.1 g.1.1 g.1.2.2.2.1 g.1.2.2.2.2.1 g.1.2.2.2.2.2.1 g.1.2.2.2.2.2.2.1 g.1.2.2.2.2.2.2.2.1 (W64 (g.1.2.2.2.2.2.2.2.2.1 + 1))))
 else .fail else .leaf (.inr (Sj g.2.1 g.1.1 g.1.2.2.2.1 g.1.2.2.2.2.1 g.1.2.2.2.2.2.1))
def Aig (g : Y4.T) : Nat := (g.1.2.2.2.2.2.2.1 : List (TCT Al)).length + 1
noncomputable def A47 : Ctx := ctx Tryz.prog Ayd []
theorem A48 : CtxOk A47 := Ad Ab B3k A2
theorem B7p : Aj Tryz.prog 139 Abm (Ac Y4 Ul (C3 [.ret, .exit 2] Uo Aig)) := Ay A48 7 _ Y4 Ul (fun e => by cases e <;> exact Nat.le_refl _) [.ret, .exit 2] Uo Aig (fun g => by kernel_rfl)
def Gm {α : Type} (ok : Nat → α → Bool) : Nat → List α → Bool
 | _, [] => true
 | i, x :: l => ok i x && Gm ok (i + 1) l
theorem Up {α E : Type} (ok : Nat → α → Bool) (r d : E) : ∀ (l : List α) (i : Nat), Yt (fun i x (_ : Unit) => bif ok i x then some (.inl ()) else some (.inr r)) (fun _ => some d) i l () = some (bif Gm ok i l then d else r)
 | [], i => rfl
 | x :: l, i => by
  simp only [Yt, Gm]
  cases ok i x with
  | true => simp only [cond_true, Bool.true_and]; exact Up ok r d l (i + 1)
  | false => rfl
def touB (d o : TCT Al) : Bool := decide (Aez d o < 0)
theorem Aqr (x : SKTs kLw) (d : TCT Al) (p q : List (TCT Al)) (n i : Int) (r : List (TCT Al)) (hr : (r.length : Int) ≤ As .i64) :
  iter Uo (r.length + 1) (Un x (toD d) p q n i r r.length 0) = some (bif r.any (touB d) then Si else Sj x p q n i) := by
 have hr' : (r.length : Int) ≤ 9223372036854775807 := hr
 have key := G3 (st := Uo) r (fun k (_ : Unit) => Un x (toD d) p q n i r r.length (k : Int)) (fun _ o _ => bif touB d o then some (.inr Si) else some (.inl ())) (fun _ => some (Sj x p q n i)) (fun _ _ => True)
  (fun k s hk _ => by
   have hrun : (Uo (Un x (toD d) p q n i r r.length (k : Int))).run = some (bif touB d r[k] then .inr Si else .inl (Un x (toD d) p q n i r r.length ((k + 1 : Nat) : Int))) := by
    show (bif decide ((k : Int) < (r.length : Int)) then bif decide (0 ≤ (k : Int) ∧ (k : Int) < (r.length : Int)) then bif touB d (B3l (Aq r (Int.toNat (k : Int)) (Ao Al))) then Tree.leaf (Sum.inr Si) else .leaf (.inl (Un x (toD d) p q n i r r.length (W64 ((k : Int) + 1)))) else .fail else .leaf (.inr (Sj x p q n i)) : Tree (Y4.T ⊕ A1 Ul)).run = _
    rw [decide_eq_true (show (k : Int) < (r.length : Int) by omega), decide_eq_true (show 0 ≤ (k : Int) ∧ (k : Int) < (r.length : Int) by omega), show Int.toNat (k : Int) = k by omega, E5 hk, Bp (n := (k : Int) + 1) (by omega) (by omega)]
    show (bif touB d r[k] then _ else _ : Tree (Y4.T ⊕ A1 Ul)).run = _
    cases touB d r[k] <;> rfl
   cases hb : touB d r[k] with
   | true => rw [hb] at hrun; simp only [cond_true]; exact hrun
   | false => rw [hb] at hrun; simp only [cond_false]; exact ⟨hrun, trivial⟩)
  (fun s e _ he => by
   cases he
   show (bif decide ((r.length : Int) < (r.length : Int)) then _ else Tree.leaf (Sum.inr (Sj x p q n i)) : Tree (Y4.T ⊕ A1 Ul)).run = _
   rw [decide_eq_false (show ¬ (r.length : Int) < (r.length : Int) by omega)]
   rfl)
  r.length 0 () (bif r.any (touB d) then Si else Sj x p q n i) (r.length + 1) (by omega) (by omega) trivial (by rw [List.drop_zero]; exact R8 (touB d) (fun _ => Si) (Sj x p q n i) _ 0)
 exact key
def Z7 (x : SKTs kLw) (p q : List (TCT Al)) (n i : Int) : Um.T := ((p, (), q, n, i, ()), (x, ()))
def Pn (b : Bool) : A1 A46 := ⟨.ret, ((b, ()), ())⟩
def Sk : A1 A46 := ⟨.exit 0, ((), ())⟩
abbrev TAo := Tree (Um.T ⊕ A1 A46)
def B3n (x : SKTs kLw) (d : SKTs kD3) (p q : List (TCT Al)) (n i : Int) (r : List (TCT Al)) : Option (A1 Ul) := iter Uo (r.length + 1) (Un x d p q n i r r.length 0)
def B3o (r : B3m.T) : Um.T := Z7 r.2.1 r.1.1 r.1.2.2.1 r.1.2.2.2.1 (W64 (r.1.2.2.2.2.1 + 1))
def B3p (y : Option (A1 Ul)) : TAo := bif isE .ret y then .leaf (.inr (Pn (C0 .ret y).1.1)) else bif isE (.exit 2) y then .leaf (.inl (B3o (C0 (.exit 2) y))) else .fail
def Aih (x : SKTs kLw) (p q : List (TCT Al)) (n i : Int) (d : TCT Al) : TAo :=
 bif !inR d.1.1 d.2.1 (W64 (x.2.1 - d.2.1)) then .leaf (.inr (Pn false)) else bif !inR d.1.2.1 d.2.1 (W64 (x.2.2.1 - d.2.1)) then .leaf (.inr (Pn false)) else
 bif decide (0 ≤ i ∧ i ≤ (p.length : Int)) then B3p (B3n x (toD d) p q n i (p.take (Int.toNat i))) else .fail
def Uq (g : Um.T) : TAo :=
 bif decide (g.1.2.2.2.2.1 < g.1.2.2.2.1) then bif decide (0 ≤ g.1.2.2.2.2.1 ∧ g.1.2.2.2.2.1 < ((g.1.2.2.1 : List (TCT Al)).length : Int)) then
  Aih g.2.1 g.1.1 g.1.2.2.1 g.1.2.2.2.1 g.1.2.2.2.2.1 (Aq g.1.2.2.1 (Int.toNat g.1.2.2.2.2.1) (Ao Al)) else .fail else .leaf (.inr Sk)
def Aii (g : Um.T) : Nat := (g.1.2.2.1 : List (TCT Al)).length + 1
def Awq : Jh := fun k => bif Nat.beq k 7 then some (Ac Y4 Ul (C3 [.ret, .exit 2] Uo Aig)) else none
theorem B7q (g : Um.T) : evC A47.P (Ch A47 7) A47.pures 139 A47.u Awq Abl (Um.of g) (En Um A46) = Uq g := by kernel_rfl
theorem Aij : A8 Abl = [Abm] := by kernel_rfl
theorem Aik : keyOf Abm = 7 := by kernel_rfl
theorem B7r : Aj Tryz.prog 139 Abl (Ac Um A46 (C3 [.ret, .exit 0] Uq Aii)) :=
 Xx A48 7 _ Awq (fun d hd f hf => by
  rw [Aij, List.mem_singleton] at hd
  subst hd
  rw [Aik] at hf
  cases hf
  exact B7p) Um A46 (fun e => by cases e <;> exact (by decide : (1000 : Nat) ≤ 2000)) [.ret, .exit 0] Uq Aii B7q
theorem Ail {P : Program} {f : Nat} {fn : Func} {la : Code} {sum : St → Tree (XE × St)} {k : Nat} (h1 : ∀ d ∈ A8 (bodyOf fn), keyOf d = k → d = la) (h2 : Aj P f la sum) :
  ∀ p ∈ [(f, fn)], ∀ d ∈ A8 (bodyOf p.2), ∀ g, Bo [((f, k), sum)] p.1 (keyOf d) = some g → Aj P p.1 d g := by
 intro p hp d hd g hg
 simp only [List.mem_singleton] at hp
 subst hp
 simp only at hd hg
 by_cases hk : keyOf d = k
 ·rw [h1 d hd hk]
  rw [hk] at hg
  simp [Bo] at hg
  subst hg
  exact h2
 ·have : Nat.beq k (keyOf d) = false := by
   cases h : Nat.beq k (keyOf d) with
   | false => rfl
   | true => exact absurd (Nat.eq_of_beq_eq_true h).symm hk
  simp only [Bo, this, Bool.and_false, cond_false] at hg
  cases hg
theorem Aim : A8 (bodyOf Tryz.f139) = [Abl, Abm] := by kernel_rfl
noncomputable def B7s : Ctx := Hk Tryz.prog Ayd [(139, Tryz.f139)] [((139, 2), Ac Um A46 (C3 [.ret, .exit 0] Uq Aii))]
theorem Aqs : CtxOk B7s := Bw Ab B3k (fns_cons is_aJ A2) (Ail (fun d hd hk => by
 rw [Aim, List.mem_cons, List.mem_singleton] at hd
 rcases hd with rfl | rfl
 ·rfl
 ·rw [Aik] at hk; cases hk) B7r)
def Ok (w l : Int) (d : TCT Al) : Bool := inR d.1.1 d.2.1 (W64 (w - d.2.1)) && inR d.1.2.1 d.2.1 (W64 (l - d.2.1))
def apF (w l : Int) (p : List (TCT Al)) : Bool := Gm (fun i d => Ok w l d && !(p.take i).any (touB d)) 0 p
def Ain (l : TCT An) (p : List (TCT Al)) : Option (A1 A46) := iter Uq (p.length + 1) (Z7 (D8 l) p p p.length 0)
def Aye (l : TCT An) (p : List (TCT Al)) : TBo := bif isE .ret (Ain l p) then .leaf ((C0 .ret (Ain l p)).1.1, ()) else bif isE (.exit 0) (Ain l p) then .leaf (true, ()) else .fail
theorem Aqt (l : TCT An) (p : List (TCT Al)) (hp : (p.length : Int) ≤ As .i64) : Ain l p = some (bif apF l.2.1 l.2.2.1 p then Sk else Pn false) := by
 have hp' : (p.length : Int) ≤ 9223372036854775807 := hp
 unfold Ain
 have key := G3 (st := Uq) p (fun i (_ : Unit) => Z7 (D8 l) p p p.length (i : Int)) (fun i d _ => bif Ok l.2.1 l.2.2.1 d && !(p.take i).any (touB d) then some (.inl ()) else some (.inr (Pn false))) (fun _ => some Sk) (fun _ _ => True)
  (fun i s hi _ => by
   have hrun : (Uq (Z7 (D8 l) p p p.length (i : Int))).run = some (bif Ok l.2.1 l.2.2.1 p[i] && !(p.take i).any (touB p[i]) then .inl (Z7 (D8 l) p p p.length ((i + 1 : Nat) : Int)) else .inr (Pn false)) := by
    show (bif decide ((i : Int) < (p.length : Int)) then bif decide (0 ≤ (i : Int) ∧ (i : Int) < (p.length : Int)) then Aih (D8 l) p p p.length (i : Int) (Aq p (Int.toNat (i : Int)) (Ao Al)) else .fail else .leaf (.inr Sk) : TAo).run = _
    rw [decide_eq_true (show (i : Int) < (p.length : Int) by omega), decide_eq_true (show 0 ≤ (i : Int) ∧ (i : Int) < (p.length : Int) by omega), show Int.toNat (i : Int) = i by omega, E5 hi]
    simp only [cond_true]
    unfold Aih Ok
    have hw : (D8 l).2.1 = l.2.1 := rfl
    have hl : (D8 l).2.2.1 = l.2.2.1 := rfl
    rw [hw, hl]
    cases inR p[i].1.1 p[i].2.1 (W64 (l.2.1 - p[i].2.1)) with
    | false => rfl
    | true =>
     cases inR p[i].1.2.1 p[i].2.1 (W64 (l.2.2.1 - p[i].2.1)) with
     | false => rfl
     | true =>
      simp only [Bool.not_true, cond_false, Bool.true_and]
      have ht : (p.take i).length = i := by rw [List.length_take]; omega
      have hy : B3n (D8 l) (toD p[i]) p p p.length (i : Int) (p.take i) = some (bif (p.take i).any (touB p[i]) then Si else Sj (D8 l) p p p.length (i : Int)) :=
       Aqr (D8 l) p[i] p p p.length (i : Int) (p.take i) (by rw [ht]; show (i : Int) ≤ 9223372036854775807; omega)
      rw [decide_eq_true (show 0 ≤ (i : Int) ∧ (i : Int) ≤ (p.length : Int) by omega), cond_true, show Int.toNat (i : Int) = i by omega, hy]
      cases (p.take i).any (touB p[i]) with
      | true => rfl
      | false =>
       show (Tree.leaf (Sum.inl (Z7 (D8 l) p p p.length (W64 ((i : Int) + 1)))) : TAo).run = _
       rw [Bp (n := (i : Int) + 1) (by omega) (by omega)]
       rfl
   cases hb : Ok l.2.1 l.2.2.1 p[i] && !(p.take i).any (touB p[i]) with
   | true => rw [hb] at hrun; simp only [cond_true]; exact ⟨hrun, trivial⟩
   | false => rw [hb] at hrun; simp only [cond_false]; exact hrun)
  (fun s e _ he => by
   cases he
   show (bif decide ((p.length : Int) < (p.length : Int)) then _ else Tree.leaf (Sum.inr Sk) : TAo).run = _
   rw [decide_eq_false (show ¬ (p.length : Int) < (p.length : Int) by omega)]
   rfl)
  p.length 0 () (bif apF l.2.1 l.2.2.1 p then Sk else Pn false) (p.length + 1) (by omega) (by omega) trivial (by
   rw [List.drop_zero]
   exact Up (fun i d => Ok l.2.1 l.2.2.1 d && !(p.take i).any (touB d)) (Pn false) Sk p 0)
 exact key
abbrev Abn : PureT := B4 [An, .sl Al] [.b] (fun _ => true) (fun x => (apF x.1.2.1 x.1.2.2.1 x.2.1, ()))
theorem Aqu : A7 Tryz.prog 139 Abn := B2 Aqs 7 (fun x => Aye x.1 x.2.1) (fun x => by kernel_rfl) fun x _ hw => by
 show (Aye x.1 x.2.1).sat _
 unfold Aye
 rw [Aqt x.1 x.2.1 (Fs hw.2.1)]
 show ((bif isE .ret (some (bif apF x.1.2.1 x.1.2.2.1 x.2.1 then Sk else Pn false)) then _ else _ : TBo)).sat (fun y => y = (apF x.1.2.1 x.1.2.2.1 x.2.1, ()))
 cases apF x.1.2.1 x.1.2.2.1 x.2.1 <;> exact rfl
theorem is_aK : FnIs Tryz.prog (75, Tryz.f75) := ⟨Tryz.func75, by kernel_rfl, by kernel_rfl⟩
def nxL (l : TCT An) : Int := l.2.2.2.2.2.2.1
def nyL (l : TCT An) : Int := l.2.2.2.2.2.2.2.1
def Bt (l : TCT An) : List (TCT C1) := l.2.2.2.2.2.2.2.2.1
def Lc (l : TCT An) : Bool := decide (((Ak l).length : Int) < 1) || (decide (((Ak l).length : Int) > 12) || decide (((Bt l).length : Int) > 256))
def A8l (l : TCT An) : Bool := Il l.1 && (inR l.2.1 65536 4194304 && (inR l.2.2.1 65536 4194304 && inR l.2.2.2.1 0 (W64 (Int.tdiv (min l.2.1 l.2.2.1) 4))))
def A8m (l : TCT An) : Bool := !decide (nxL l < 1) && (!decide (nxL l > 16) && (!decide (nyL l < 1) && (!decide (nyL l > 16) && !(((Bt l).length : Int) != W64 (nxL l * nyL l)))))
def okL (l : TCT An) : Bool := A8l l && (inR (Jz l).2.1 1 8192 && (A8m l && ((Ak l).all F3 && ((Bt l).all G5 && apF l.2.1 l.2.2.1 (Ce l)))))
def C8 (l : TCT An) : Int := bif Lc l then 6 else bif okL l then 0 else 2
abbrev Ur : PureT := B4 [An] [cI] (fun x => decide ((x.1.1.size : Int) ≤ As .i64)) (fun x => (C8 x.1, ()))
def B7t : List (Nat × PureT) := [(131, A12), (132, Ls), (140, N1), (139, Abn), (133, A3n), (136, A3s)]
theorem B7u : Bu Tryz.prog B7t := A0 is_ay.plain Aqk (A0 is_aa.plain Kf (A0 is_au.plain Abj (A0 is_aJ.plain Aqu (A0 is_an.plain Ahn (A0 is_ap.plain Ahs A9)))))
abbrev TEr := Tree (TCTs [cI])
def er (c : Bool) (e : Int) (k : TEr) : TEr := bif c then .leaf (e, ()) else k
theorem Ld {a b : Bool} {e : Int} {k : TEr} : er (a || b) e k = er a e (er b e k) := by cases a <;> cases b <;> rfl
def Ayf (l : TCT An) : TEr :=
 er (decide (((Ak l).length : Int) < 1)) 6 (er (decide (((Ak l).length : Int) > 12)) 6 (er (decide (((Bt l).length : Int) > 256)) 6 (
 bif decide ((l.1.size : Int) ≤ As .i64) then er (!Il l.1) 2 (er (!inR l.2.1 65536 4194304) 2 (er (!inR l.2.2.1 65536 4194304) 2 (er (!inR l.2.2.2.1 0 (W64 (Int.tdiv (min l.2.1 l.2.2.1) 4))) 2 (er (!inR (Jz l).2.1 1 8192) 2 (
  er (decide (nxL l < 1)) 2 (er (decide (nxL l > 16)) 2 (er (decide (nyL l < 1)) 2 (er (decide (nyL l > 16)) 2 (er (((Bt l).length : Int) != W64 (nxL l * nyL l)) 2 (
  er ((Ak l).any (D5 ())) 2 (er ((Bt l).any (D6 ())) 2 (
  bif decide ((Ak l).length ≤ 1000) then er (!apF l.2.1 l.2.2.1 (Ce l)) 2 (.leaf (0, ())) else .fail))))))))))))
 else .fail)))
theorem J8 {α : Type} (p : α → Bool) (l : List α) : l.any (fun x => !p x) = !l.all p := by
 induction l with
 | nil => rfl
 | cons x l ih => simp only [List.any_cons, List.all_cons, ih, Bool.not_and]
theorem Aqv {l : TCT An} (hs : (l.1.size : Int) ≤ As .i64) : (Ayf l).sat (fun y => y = (C8 l, ())) := by
 unfold Ayf C8
 rw [← Ld, ← Ld, Bool.or_assoc]
 show (er (Lc l) 6 _).sat _
 cases hm : Lc l with
 | true => exact rfl
 | false =>
  have h12 : (Ak l).length ≤ 1000 := by
   unfold Lc at hm
   simp only [Bool.or_eq_false_iff, decide_eq_false_iff_not] at hm
   omega
  rw [decide_eq_true hs, decide_eq_true h12]
  show (er (!Il l.1) 2 _).sat (fun y => y = ((bif okL l then 0 else 2), ()))
  have hh : (Ak l).any (D5 ()) = !(Ak l).all F3 := J8 F3 _
  have hc : (Bt l).any (D6 ()) = !(Bt l).all G5 := J8 G5 _
  rw [hh, hc]
  unfold okL A8l A8m
  simp only [cond_true]
  generalize Il l.1 = b1
  generalize inR l.2.1 65536 4194304 = b2
  generalize inR l.2.2.1 65536 4194304 = b3
  generalize inR l.2.2.2.1 0 (W64 (Int.tdiv (min l.2.1 l.2.2.1) 4)) = b4
  generalize inR (Jz l).2.1 1 8192 = b5
  generalize decide (nxL l < 1) = b6
  generalize decide (nxL l > 16) = b7
  generalize decide (nyL l < 1) = b8
  generalize decide (nyL l > 16) = b9
  generalize (((Bt l).length : Int) != W64 (nxL l * nyL l)) = b10
  generalize (Ak l).all F3 = b11
  generalize (Bt l).all G5 = b12
  generalize apF l.2.1 l.2.2.1 (Ce l) = b13
  cases b1 <;> try exact rfl
  cases b2 <;> try exact rfl
  cases b3 <;> try exact rfl
  cases b4 <;> try exact rfl
  cases b5 <;> try exact rfl
  cases b6 <;> try exact rfl
  cases b7 <;> try exact rfl
  cases b8 <;> try exact rfl
  cases b9 <;> try exact rfl
  cases b10 <;> try exact rfl
  cases b11 <;> try exact rfl
  cases b12 <;> try exact rfl
  cases b13 <;> exact rfl
theorem A49 : A7 Tryz.prog 75 Ur := B2 (Ad Ab B7u (fns_cons is_aK A2)) 7 (fun x => Ayf x.1) (fun x => by kernel_rfl) fun x hok _ => Aqv (of_decide_eq_true hok)
theorem K0 {G E α : Type} {st : G → Tree (G ⊕ E)} (l : List α) (d : α) (hd : Int → G) (bad : α → Bool) (rt ex : E) (hl : (l.length : Int) ≤ As .i64)
  (h : ∀ i : Int, st (hd i) = bif decide (i < (l.length : Int)) then bif decide (0 ≤ i ∧ i < (l.length : Int)) then bif bad (Aq l (Int.toNat i) d) then .leaf (.inr rt) else .leaf (.inl (hd (W64 (i + 1)))) else .fail else .leaf (.inr ex)) :
  iter st (l.length + 1) (hd 0) = some (bif l.any bad then rt else ex) := by
 have hl' : (l.length : Int) ≤ 9223372036854775807 := hl
 have key := G3 (st := st) l (fun i (_ : Unit) => hd (i : Int)) (fun _ x _ => bif bad x then some (.inr rt) else some (.inl ())) (fun _ => some ex) (fun _ _ => True)
  (fun i s hi _ => by
   have hrun : (st (hd (i : Int))).run = some (bif bad l[i] then .inr rt else .inl (hd ((i + 1 : Nat) : Int))) := by
    rw [h, decide_eq_true (show (i : Int) < (l.length : Int) by omega), decide_eq_true (show 0 ≤ (i : Int) ∧ (i : Int) < (l.length : Int) by omega), show Int.toNat (i : Int) = i by omega, E5 hi, Bp (n := (i : Int) + 1) (by omega) (by omega)]
    cases bad l[i] <;> rfl
   cases hb : bad l[i] with
   | true => rw [hb] at hrun; simp only [cond_true]; exact hrun
   | false => rw [hb] at hrun; simp only [cond_false]; exact ⟨hrun, trivial⟩)
  (fun s e _ he => by
   cases he
   rw [h, decide_eq_false (show ¬ (l.length : Int) < (l.length : Int) by omega)]
   rfl)
  l.length 0 () (bif l.any bad then rt else ex) (l.length + 1) (by omega) (by omega) trivial (by rw [List.drop_zero]; exact R8 bad (fun _ => rt) ex _ 0)
 exact key
theorem Us {G E α : Type} {st : G → Tree (G ⊕ E)} (l : List α) (d : α) (hd : Int → G) (ok : Nat → α → Bool) (body : Int → α → Tree (G ⊕ E)) (rt ex : E) (hl : (l.length : Int) ≤ As .i64)
  (h : ∀ i : Int, st (hd i) = bif decide (i < (l.length : Int)) then bif decide (0 ≤ i ∧ i < (l.length : Int)) then body i (Aq l (Int.toNat i) d) else .fail else .leaf (.inr ex))
  (hb : ∀ (i : Nat) (hi : i < l.length), (body (i : Int) l[i]).run = some (bif ok i l[i] then .inl (hd ((i + 1 : Nat) : Int)) else .inr rt)) :
  iter st (l.length + 1) (hd 0) = some (bif Gm ok 0 l then ex else rt) := by
 have hl' : (l.length : Int) ≤ 9223372036854775807 := hl
 have key := G3 (st := st) l (fun i (_ : Unit) => hd (i : Int)) (fun i x _ => bif ok i x then some (.inl ()) else some (.inr rt)) (fun _ => some ex) (fun _ _ => True)
  (fun i s hi _ => by
   have hrun : (st (hd (i : Int))).run = some (bif ok i l[i] then .inl (hd ((i + 1 : Nat) : Int)) else .inr rt) := by
    rw [h, decide_eq_true (show (i : Int) < (l.length : Int) by omega), decide_eq_true (show 0 ≤ (i : Int) ∧ (i : Int) < (l.length : Int) by omega), show Int.toNat (i : Int) = i by omega, E5 hi]
    exact hb i hi
   cases hk : ok i l[i] with
   | true => rw [hk] at hrun; simp only [cond_true]; exact ⟨hrun, trivial⟩
   | false => rw [hk] at hrun; simp only [cond_false]; exact hrun)
  (fun s e _ he => by
   cases he
   rw [h, decide_eq_false (show ¬ (l.length : Int) < (l.length : Int) by omega)]
   rfl)
  l.length 0 () (bif Gm ok 0 l then ex else rt) (l.length + 1) (by omega) (by omega) trivial (by rw [List.drop_zero]; exact Up ok rt ex _ 0)
 exact key
theorem is_aL : FnIs Tryz.prog (42, Tryz.f42) := ⟨Tryz.func42, by kernel_rfl, by kernel_rfl⟩
theorem is_aM : FnIs Tryz.prog (93, Tryz.f93) := ⟨Tryz.func93, by kernel_rfl, by kernel_rfl⟩
def Ayg : List (Nat × PureT) := [(88, A12), (89, Ls), (92, N1), (90, A0s), (91, A0t)]
theorem B3q : Bu Tryz.prog Ayg := A0 is_aD.plain Aqo (A0 is_ab.plain Jy (A0 is_ax.plain A43 (A0 is_ad.plain Aq7 (A0 is_af.plain Ahi A9))))
noncomputable def A4a : Ctx := ctx Tryz.prog Ayg [(93, Tryz.f93)]
theorem Po : CtxOk A4a := Ad Ab B3q (fns_cons is_aM A2)
abbrev bL : BK := (0, 29, kLw)
noncomputable def Aio : Code := (A8 (bodyOf Tryz.f42)).getD 0 .skip
noncomputable def Aip : Code := (A8 (bodyOf Tryz.f42)).getD 1 .skip
noncomputable def A4b : Code := (A8 (bodyOf Tryz.f42)).getD 2 .skip
noncomputable def Abo : Code := (A8 (bodyOf Tryz.f42)).getD 3 .skip
def A8n : Lay := { keys := [1, 3], ks := [.p 0 0 0 0, .d cI], bs := [bL], n := 224, nx := 1000, marks := [] }
def A4c : Lay := { keys := [1], ks := [.p 0 0 0 0], bs := [bL], n := 224, nx := 1000, marks := [] }
def B7v : Lay := { keys := [2], ks := [.d cI], bs := [], n := 224, nx := 1000, marks := [] }
def Re : XE → Lay := fun e => match e with | .ret => B7v | _ => A4c
def Aiq (x : SKTs kLw) (i : Int) : A8n.T := (((), i, ()), (x, ()))
def Z8 : A1 Re := ⟨.ret, ((2, ()), ())⟩
def Air (x : SKTs kLw) : A1 Re := ⟨.exit 0, (((), ()), (x, ()))⟩
def B7w (h : TCT Bg) : TCT Bg := (h.1, h.2.1, h.2.2.1, h.2.2.2.1, h.2.2.2.2.1, ())
def hsX (x : SKTs kLw) : List (TCT Bg) := x.2.2.2.2.1
def csX (x : SKTs kLw) : List (TCT C1) := x.2.2.2.2.2.2.2.2.2.2.1
def Abp (g : A8n.T) : Tree (A8n.T ⊕ A1 Re) := bif decide (g.1.2.1 < ((hsX g.2.1).length : Int)) then bif decide (0 ≤ g.1.2.1 ∧ g.1.2.1 < ((hsX g.2.1).length : Int)) then
 bif !F3 (B7w (Aq (hsX g.2.1) (Int.toNat g.1.2.1) (Ao Bg))) then .leaf (.inr Z8) else .leaf (.inl (Aiq g.2.1 (W64 (g.1.2.1 + 1)))) else .fail else .leaf (.inr (Air g.2.1))
def Ais (g : A8n.T) : Nat := (hsX g.2.1).length + 1
theorem B7x : Aj Tryz.prog 42 Aio (Ac A8n Re (C3 [.ret, .exit 0] Abp Ais)) := Ay Po 7 _ A8n Re (fun e => by cases e <;> exact Nat.le_refl _) [.ret, .exit 0] Abp Ais (fun g => by kernel_rfl)
def A8o : Lay := { keys := [1, 4], ks := [.p 0 0 0 0, .d cI], bs := [bL], n := 224, nx := 1000, marks := [] }
def Ait (x : SKTs kLw) (i : Int) : A8o.T := (((), i, ()), (x, ()))
def Aiu (x : SKTs kLw) : A1 Re := ⟨.exit 2, (((), ()), (x, ()))⟩
def Abq (g : A8o.T) : Tree (A8o.T ⊕ A1 Re) := bif decide (g.1.2.1 < ((csX g.2.1).length : Int)) then bif decide (0 ≤ g.1.2.1 ∧ g.1.2.1 < ((csX g.2.1).length : Int)) then
 bif !G5 (Aq (csX g.2.1) (Int.toNat g.1.2.1) (Ao C1)) then .leaf (.inr Z8) else .leaf (.inl (Ait g.2.1 (W64 (g.1.2.1 + 1)))) else .fail else .leaf (.inr (Aiu g.2.1))
def Aiv (g : A8o.T) : Nat := (csX g.2.1).length + 1
theorem B7y : Aj Tryz.prog 42 Aip (Ac A8o Re (C3 [.ret, .exit 2] Abq Aiv)) := Ay Po 7 _ A8o Re (fun e => by cases e <;> exact Nat.le_refl _) [.ret, .exit 2] Abq Aiv (fun g => by kernel_rfl)
def A4d : Lay := { keys := [1, 5, 6, 7], ks := [.p 0 0 0 0, .d (.sl Al), .d cI, .d cI], bs := [bL], n := 224, nx := 2000, marks := [] }
def B3r : Lay := { keys := [1, 5, 6], ks := [.p 0 0 0 0, .d (.sl Al), .d cI], bs := [bL], n := 224, nx := 2000, marks := [] }
def Awr : Lay := { keys := [2], ks := [.d cI], bs := [], n := 224, nx := 2000, marks := [] }
def A14 : XE → Lay := fun e => match e with | .ret => Awr | _ => B3r
def Ut : Lay := { keys := [1, 5, 6], ks := [.p 0 0 0 0, .d (.sl Al), .d cI], bs := [bL], n := 224, nx := 1000, marks := [] }
def B7z : Lay := { keys := [], ks := [], bs := [], n := 224, nx := 2000, marks := [] }
def A4e : XE → Lay := fun e => match e with | .ret => Awr | _ => B7z
def sqR (a b : TCT Al) : Int := W64 (W64 (W64 (a.1.1 - b.1.1) * W64 (a.1.1 - b.1.1)) + W64 (W64 (a.1.2.1 - b.1.2.1) * W64 (a.1.2.1 - b.1.2.1)))
def Y5 (d o : TCT Al) : Bool := decide (sqR d o < srD d o)
def inP {β : Type} (p : List (TCT Al)) (i : Int) (k : Tree β) : Tree β := bif decide (0 ≤ i ∧ i < (p.length : Int)) then k else .fail
theorem G6 {β : Type} {p : List (TCT Al)} {i : Int} {k : Tree β} (h : 0 ≤ i ∧ i < (p.length : Int)) : inP p i k = k := by unfold inP; rw [decide_eq_true h]; rfl
def gD (p : List (TCT Al)) (i : Int) : TCT Al := Aq p (Int.toNat i) (Ao Al)
def Abr (x : SKTs kLw) (p : List (TCT Al)) (i k : Int) : A4d.T := (((), p, i, k, ()), (x, ()))
def Abs : A1 A14 := ⟨.ret, ((2, ()), ())⟩
def Abt (x : SKTs kLw) (p : List (TCT Al)) (i : Int) : A1 A14 := ⟨.exit 6, (((), p, i, ()), (x, ()))⟩
def A8p (x : SKTs kLw) (p : List (TCT Al)) (i k : Int) : Tree (A4d.T ⊕ A1 A14) := bif decide (k < i) then
 inP p i (inP p k (inP p i (inP p k (inP p i (inP p k (inP p i (inP p k (bif Y5 (gD p i) (gD p k) then .leaf (.inr Abs) else .leaf (.inl (Abr x p i (W64 (k + 1)))))))))))) else .leaf (.inr (Abt x p i))
def A4f (g : A4d.T) : Tree (A4d.T ⊕ A1 A14) := A8p g.2.1 g.1.2.1 g.1.2.2.1 g.1.2.2.2.1
def Aiw (g : A4d.T) : Nat := (List.take (Int.toNat g.1.2.2.1) (g.1.2.1 : List (TCT Al))).length + 1
theorem B80 : Aj Tryz.prog 42 Abo (Ac A4d A14 (C3 [.ret, .exit 6] A4f Aiw)) := Ay Po 7 _ A4d A14 (fun e => by cases e <;> exact Nat.le_refl _) [.ret, .exit 6] A4f Aiw (fun g => by kernel_rfl)
theorem Aqw (x : SKTs kLw) (p : List (TCT Al)) (i : Nat) (hi : i < p.length) (hp : (p.length : Int) ≤ As .i64) :
  iter A4f ((p.take i).length + 1) (Abr x p i 0) = some (bif (p.take i).any (Y5 p[i]) then Abs else Abt x p i) := by
 have ht : (p.take i).length = i := by rw [List.length_take]; omega
 have hp' : (p.length : Int) ≤ 9223372036854775807 := hp
 refine K0 (p.take i) (Ao Al) (fun k => Abr x p i k) (Y5 p[i]) Abs (Abt x p i) (by rw [ht]; show (i : Int) ≤ 9223372036854775807; omega) fun k => ?_
 show A8p x p i k = _
 unfold A8p
 rw [ht]
 by_cases hk : k < (i : Int)
 ·rw [decide_eq_true hk, cond_true, cond_true]
  by_cases h0 : 0 ≤ k
  ·have hki : 0 ≤ k ∧ k < (p.length : Int) := by omega
   have hii : 0 ≤ (i : Int) ∧ (i : Int) < (p.length : Int) := by omega
   have e1 : gD p (i : Int) = p[i] := by unfold gD; rw [show Int.toNat (i : Int) = i by omega, E5 hi]
   have e2 : gD p k = Aq (p.take i) (Int.toNat k) (Ao Al) := by
    unfold gD
    have h1 : Int.toNat k < p.length := by omega
    have h2 : Int.toNat k < (p.take i).length := by omega
    rw [E5 h1, E5 h2, List.getElem_take]
   rw [G6 hii, G6 hki, G6 hii, G6 hki, G6 hii, G6 hki, G6 hii, G6 hki, e1, e2, decide_eq_true (show 0 ≤ k ∧ k < (i : Int) by omega)]
   rfl
  ·have hii : 0 ≤ (i : Int) ∧ (i : Int) < (p.length : Int) := by omega
   rw [G6 hii, decide_eq_false (show ¬ (0 ≤ k ∧ k < (i : Int)) by omega)]
   unfold inP
   rw [decide_eq_false (show ¬ (0 ≤ k ∧ k < (p.length : Int)) by omega)]
   rfl
 ·rw [decide_eq_false hk]; rfl
def Abu (x : SKTs kLw) (p : List (TCT Al)) (i : Int) : Ut.T := (((), p, i, ()), (x, ()))
def Z9 (e : Int) : A1 A4e := ⟨.ret, ((e, ()), ())⟩
def Abv : A1 A4e := ⟨.exit 4, ((), ())⟩
abbrev TC3 := Tree (Ut.T ⊕ A1 A4e)
def Ayh (x : SKTs kLw) (p : List (TCT Al)) (i : Int) : Option (A1 A14) := iter A4f ((p.take (Int.toNat i)).length + 1) (Abr x p i 0)
def B3s (r : B3r.T) : Ut.T := Abu r.2.1 r.1.2.1 (W64 (r.1.2.2.1 + 1))
def B3t (y : Option (A1 A14)) : TC3 := bif isE .ret y then .leaf (.inr (Z9 (C0 .ret y).1.1)) else bif isE (.exit 6) y then .leaf (.inl (B3s (C0 (.exit 6) y))) else .fail
def Aix (x : SKTs kLw) (p : List (TCT Al)) (i : Int) (d : TCT Al) : TC3 :=
 inP p i (inP p i (bif !inR d.1.1 d.2.1 (W64 (x.2.1 - d.2.1)) then .leaf (.inr (Z9 2)) else inP p i (inP p i (inP p i (bif !inR d.1.2.1 d.2.1 (W64 (x.2.2.1 - d.2.1)) then .leaf (.inr (Z9 2)) else B3t (Ayh x p i))))))
def A4g (g : Ut.T) : TC3 := bif decide (g.1.2.2.1 < ((g.1.2.1 : List (TCT Al)).length : Int)) then bif decide (0 ≤ g.1.2.2.1 ∧ g.1.2.2.1 < ((g.1.2.1 : List (TCT Al)).length : Int)) then Aix g.2.1 g.1.2.1 g.1.2.2.1 (gD g.1.2.1 g.1.2.2.1) else .fail else .leaf (.inr Abv)
def Aiy (g : Ut.T) : Nat := (g.1.2.1 : List (TCT Al)).length + 1
def Aws : Jh := fun k => bif Nat.beq k 24 then some (Ac A4d A14 (C3 [.ret, .exit 6] A4f Aiw)) else none
theorem B81 (g : Ut.T) : evC A4a.P (Ch A4a 7) A4a.pures 42 A4a.u Aws A4b (Ut.of g) (En Ut A4e) = A4g g := by kernel_rfl
theorem Aiz : A8 A4b = [Abo] := by kernel_rfl
theorem Aj0 : keyOf Abo = 24 := by kernel_rfl
theorem B82 : Aj Tryz.prog 42 A4b (Ac Ut A4e (C3 [.ret, .exit 4] A4g Aiy)) :=
 Xx Po 7 _ Aws (fun d hd f hf => by
  rw [Aiz, List.mem_singleton] at hd
  subst hd
  rw [Aj0] at hf
  cases hf
  exact B80) Ut A4e (fun e => by cases e <;> exact (by decide : (1000 : Nat) ≤ 2000)) [.ret, .exit 4] A4g Aiy B81
theorem Ayi : keyOf Aio = 6 := by kernel_rfl
theorem Ayj : keyOf Aip = 13 := by kernel_rfl
theorem Ayk : keyOf A4b = 19 := by kernel_rfl
theorem Aj1 : A8 (bodyOf Tryz.f42) = [Aio, Aip, A4b, Abo] := by kernel_rfl
noncomputable def Aj2 : List ((Nat × Nat) × (St → Tree (XE × St))) := [((42, 6), Ac A8n Re (C3 [.ret, .exit 0] Abp Ais)), ((42, 13), Ac A8o Re (C3 [.ret, .exit 2] Abq Aiv)), ((42, 19), Ac Ut A4e (C3 [.ret, .exit 4] A4g Aiy))]
noncomputable def B3u : Ctx := Hk Tryz.prog Ayg [(42, Tryz.f42)] Aj2
theorem Aqx : CtxOk B3u := Bw Ab B3q (fns_cons is_aL A2) (fun p hp d hd g hg => by
 rw [List.mem_singleton] at hp
 subst hp
 have hd : d ∈ A8 (bodyOf Tryz.f42) := hd
 rw [Aj1] at hd
 simp only [List.mem_cons, List.not_mem_nil, or_false] at hd
 have hg : Bo Aj2 42 (keyOf d) = some g := hg
 rcases hd with rfl | rfl | rfl | rfl
 ·rw [Ayi] at hg
  cases hg
  exact B7x
 ·rw [Ayj] at hg
  cases hg
  exact B7y
 ·rw [Ayk] at hg
  cases hg
  exact B82
 ·rw [Aj0] at hg
  cases hg)
def Aj3 (x : SKTs kLw) : Option (A1 Re) := iter Abp ((hsX x).length + 1) (Aiq x 0)
def Aj4 (x : SKTs kLw) : Option (A1 Re) := iter Abq ((csX x).length + 1) (Ait x 0)
def Aj5 (x : SKTs kLw) (p : List (TCT Al)) : Option (A1 A4e) := iter A4g (p.length + 1) (Abu x p 0)
def Aj6 (r : A4c.T) : TEr := bif decide ((hsX r.2.1).length ≤ 1000) then
 bif isE .ret (Aj5 r.2.1 (Ce (Lm r.2.1))) then .leaf ((C0 .ret (Aj5 r.2.1 (Ce (Lm r.2.1)))).1.1, ()) else bif isE (.exit 4) (Aj5 r.2.1 (Ce (Lm r.2.1))) then .leaf (0, ()) else .fail else .fail
def Aj7 (r : A4c.T) : TEr := er (!inR (Jz (Lm r.2.1)).2.1 1 8192) 2 (er (!inR (Jz (Lm r.2.1)).1.1 0 4194304) 2 (er (!inR (Jz (Lm r.2.1)).1.2.1 0 4194304) 2 (
 er (decide (nxL (Lm r.2.1) < 1)) 2 (er (decide (nxL (Lm r.2.1) > 16)) 2 (er (decide (nyL (Lm r.2.1) < 1)) 2 (er (decide (nyL (Lm r.2.1) > 16)) 2 (er (((csX r.2.1).length : Int) != W64 (nxL (Lm r.2.1) * nyL (Lm r.2.1))) 2 (
 bif isE .ret (Aj4 r.2.1) then .leaf ((C0 .ret (Aj4 r.2.1)).1.1, ()) else bif isE (.exit 2) (Aj4 r.2.1) then Aj6 (C0 (.exit 2) (Aj4 r.2.1)) else .fail))))))))
def Aqy (l : TCT An) : TEr :=
 er (decide (((Ak l).length : Int) < 1)) 6 (er (decide (((Ak l).length : Int) > 12)) 6 (er (decide (((Bt l).length : Int) > 256)) 6 (
 bif decide ((l.1.size : Int) ≤ As .i64) then er (!Il l.1) 2 (er (!inR l.2.1 65536 4194304) 2 (er (!inR l.2.2.1 65536 4194304) 2 (er (!inR l.2.2.2.1 0 (W64 (Int.tdiv (min l.2.1 l.2.2.1) 4))) 2 (
  bif isE .ret (Aj3 (D8 l)) then .leaf ((C0 .ret (Aj3 (D8 l))).1.1, ()) else bif isE (.exit 0) (Aj3 (D8 l)) then Aj7 (C0 (.exit 0) (Aj3 (D8 l))) else .fail))))
 else .fail)))
theorem Aqz (x : TCTs [An]) : Ch B3u 7 (.fn 42) (Co [An] x) Bl 0 (Hn Tryz.prog [cI]) = Aqy x.1 := by kernel_rfl
def apR (w l : Int) (p : List (TCT Al)) : Bool := Gm (fun i d => Ok w l d && !(p.take i).any (Y5 d)) 0 p
theorem Ar0 (x : SKTs kLw) (hl : ((hsX x).length : Int) ≤ As .i64) : Aj3 x = some (bif (hsX x).any (fun h => !F3 h) then Z8 else Air x) :=
 K0 (hsX x) (Ao Bg) (Aiq x) (fun h => !F3 h) Z8 (Air x) hl (fun _ => rfl)
theorem Ar1 (x : SKTs kLw) (hl : ((csX x).length : Int) ≤ As .i64) : Aj4 x = some (bif (csX x).any (fun h => !G5 h) then Z8 else Aiu x) :=
 K0 (csX x) (Ao C1) (Ait x) (fun h => !G5 h) Z8 (Aiu x) hl (fun _ => rfl)
theorem Ar2 (x : SKTs kLw) (p : List (TCT Al)) (hp : (p.length : Int) ≤ As .i64) : Aj5 x p = some (bif apR x.2.1 x.2.2.1 p then Abv else Z9 2) := by
 have hp' : (p.length : Int) ≤ 9223372036854775807 := hp
 refine Us p (Ao Al) (Abu x p) (fun i d => Ok x.2.1 x.2.2.1 d && !(p.take i).any (Y5 d)) (Aix x p) (Z9 2) Abv hp (fun _ => rfl) fun i hi => ?_
 have hii : 0 ≤ (i : Int) ∧ (i : Int) < (p.length : Int) := by omega
 unfold Aix Ok
 rw [G6 hii, G6 hii, G6 hii, G6 hii, G6 hii]
 cases inR p[i].1.1 p[i].2.1 (W64 (x.2.1 - p[i].2.1)) with
 | false => rfl
 | true =>
  cases inR p[i].1.2.1 p[i].2.1 (W64 (x.2.2.1 - p[i].2.1)) with
  | false => rfl
  | true =>
   have hy : Ayh x p (i : Int) = some (bif (p.take i).any (Y5 p[i]) then Abs else Abt x p i) := by
    unfold Ayh
    rw [show Int.toNat (i : Int) = i by omega]
    exact Aqw x p i hi hp
   simp only [Bool.not_true, cond_false, Bool.true_and]
   rw [hy]
   cases (p.take i).any (Y5 p[i]) with
   | true => rfl
   | false =>
    show (Tree.leaf (Sum.inl (Abu x p (W64 ((i : Int) + 1)))) : TC3).run = _
    rw [Bp (n := (i : Int) + 1) (by omega) (by omega)]
    rfl
def Ar3 (l : TCT An) : Bool := inR (Jz l).2.1 1 8192 && (inR (Jz l).1.1 0 4194304 && inR (Jz l).1.2.1 0 4194304)
def okR (l : TCT An) : Bool := A8l l && ((Ak l).all F3 && (Ar3 l && (A8m l && ((Bt l).all G5 && apR l.2.1 l.2.2.1 (Ce l)))))
def Ar4 (l : TCT An) : Int := bif Lc l then 6 else bif okR l then 0 else 2
theorem Zf {l : TCT An} : (Ce l).length = 2 * (Ak l).length + 1 := by
 unfold Ce
 rw [List.length_append, U9]
 rfl
theorem B3v {l : TCT An} (h12 : (Ak l).length ≤ 1000) : (Aj6 (((), ()), (D8 l, ()))).sat (fun y => y = ((bif apR l.2.1 l.2.2.1 (Ce l) then (0 : Int) else 2), ())) := by
 unfold Aj6
 have e : Lm (((((), ()), (D8 l, ())) : A4c.T).2.1) = l := rfl
 have e2 : hsX (((((), ()), (D8 l, ())) : A4c.T).2.1) = Ak l := rfl
 have hy : Aj5 (((((), ()), (D8 l, ())) : A4c.T).2.1) (Ce l) = some (bif apR l.2.1 l.2.2.1 (Ce l) then Abv else Z9 2) := Ar2 (D8 l) (Ce l) (by rw [Zf]; simp only [As]; omega)
 rw [e, e2, decide_eq_true h12, hy]
 cases apR l.2.1 l.2.2.1 (Ce l) <;> exact rfl
theorem Kj {a b : Bool} {k : TEr} (h : k.sat (fun y => y = ((bif b then (0 : Int) else 2), ()))) : (er (!a) 2 k).sat (fun y => y = ((bif a && b then (0 : Int) else 2), ())) := by
 cases a with
 | true => exact h
 | false => exact rfl
theorem Lu {a b : Bool} {k : TEr} (h : k.sat (fun y => y = ((bif b then (0 : Int) else 2), ()))) : (er a 2 k).sat (fun y => y = ((bif !a && b then (0 : Int) else 2), ())) := by
 cases a with
 | true => exact rfl
 | false => exact h
theorem B3w {l : TCT An} (h12 : (Ak l).length ≤ 1000) (hc : ((Bt l).length : Int) ≤ As .i64) : (Aj7 (((), ()), (D8 l, ()))).sat (fun y => y = ((bif Ar3 l && (A8m l && ((Bt l).all G5 && apR l.2.1 l.2.2.1 (Ce l))) then (0 : Int) else 2), ())) := by
 unfold Aj7 Ar3 A8m
 have e : Lm (((((), ()), (D8 l, ())) : A4c.T).2.1) = l := rfl
 have e2 : csX (((((), ()), (D8 l, ())) : A4c.T).2.1) = Bt l := rfl
 rw [e, e2]
 simp only [Bool.and_assoc]
 refine Kj (Kj (Kj (Lu (Lu (Lu (Lu (Lu ?_)))))))
 rw [Ar1 (D8 l) hc]
 have hq : (csX (D8 l)).any (fun h => !G5 h) = !(Bt l).all G5 := J8 G5 _
 rw [hq]
 cases (Bt l).all G5 with
 | false => exact rfl
 | true => exact B3v h12
theorem Ar5 {l : TCT An} (hs : (l.1.size : Int) ≤ As .i64) (hh : ((Ak l).length : Int) ≤ As .i64) (hc : ((Bt l).length : Int) ≤ As .i64) : (Aqy l).sat (fun y => y = (Ar4 l, ())) := by
 unfold Aqy Ar4
 rw [← Ld, ← Ld, Bool.or_assoc]
 show (er (Lc l) 6 _).sat _
 cases hm : Lc l with
 | true => exact rfl
 | false =>
  have h12 : (Ak l).length ≤ 1000 := by
   unfold Lc at hm
   simp only [Bool.or_eq_false_iff, decide_eq_false_iff_not] at hm
   omega
  rw [decide_eq_true hs]
  show (er (!Il l.1) 2 _).sat (fun y => y = ((bif okR l then (0 : Int) else 2), ()))
  unfold okR A8l
  simp only [Bool.and_assoc]
  refine Kj (Kj (Kj (Kj ?_)))
  rw [Ar0 (D8 l) hh]
  have hq : (hsX (D8 l)).any (fun h => !F3 h) = !(Ak l).all F3 := J8 F3 _
  rw [hq]
  cases (Ak l).all F3 with
  | false => exact rfl
  | true => exact B3w h12 hc
theorem Hz {x lo hi : Int} : inR x lo hi = true ↔ lo ≤ x ∧ x ≤ hi := by unfold inR; simp only [Bool.and_eq_true, decide_eq_true_eq]
theorem Abw {α : Type} {p : List α} {ok1 ok2 : Nat → α → Bool} (ins : α → Bool) (h : ∀ (i : Nat) (hi : i < p.length), (∀ o ∈ p.take i, ins o = true) → ok1 i p[i] = ok2 i p[i]) (h1 : ∀ i x, ok1 i x = true → ins x = true) :
  ∀ (k i : Nat), i + k = p.length → (∀ o ∈ p.take i, ins o = true) → Gm ok1 i (p.drop i) = Gm ok2 i (p.drop i)
 | 0, i, hk, _ => by
  rw [List.drop_eq_nil_of_le (by omega)]; rfl
 | k + 1, i, hk, hp => by
  have hi : i < p.length := by omega
  rw [List.drop_eq_getElem_cons hi]
  simp only [Gm]
  rw [← h i hi hp]
  cases ho : ok1 i p[i] with
  | false => rfl
  | true =>
   rw [Bool.true_and, Bool.true_and]
   refine Abw ins h h1 k (i + 1) (by omega) fun o hm => ?_
   rw [List.take_succ_eq_append_getElem hi, List.mem_append, List.mem_singleton] at hm
   rcases hm with hm | rfl
   ·exact hp o hm
   ·exact h1 i _ ho
theorem A4h {α : Type} {ok : Nat → α → Bool} : ∀ (l : List α) (i : Nat), Gm ok i l = true → ∀ x ∈ l, ∃ j, ok j x = true
 | y :: l, i, h, x, hx => by
  simp only [Gm, Bool.and_eq_true] at h
  rcases List.mem_cons.1 hx with rfl | hx
  ·exact ⟨i, h.1⟩
  ·exact A4h l (i + 1) h.2 x hx
structure On (d : TCT Al) : Prop where
 x : 0 ≤ d.1.1 ∧ d.1.1 ≤ 4194304
 y : 0 ≤ d.1.2.1 ∧ d.1.2.1 ≤ 4194304
 r : 1 ≤ d.2.1 ∧ d.2.1 ≤ 8192
theorem Ar6 {x y r w l : Int} (hw : 0 ≤ w ∧ w ≤ 4194304) (hl : 0 ≤ l ∧ l ≤ 4194304) (hr : 1 ≤ r ∧ r ≤ 8192) (h : (r ≤ x ∧ x ≤ W64 (w - r)) ∧ r ≤ y ∧ y ≤ W64 (l - r)) : (0 ≤ x ∧ x ≤ 4194304) ∧ 0 ≤ y ∧ y ≤ 4194304 := by
 rw [Bp (n := w - r) (by omega) (by omega), Bp (n := l - r) (by omega) (by omega)] at h
 omega
theorem Aj8 {w l : Int} (hw : 0 ≤ w ∧ w ≤ 4194304) (hl : 0 ≤ l ∧ l ≤ 4194304) {d : TCT Al} (hr : 1 ≤ d.2.1 ∧ d.2.1 ≤ 8192) (h : Ok w l d = true) : On d := by
 unfold Ok at h
 simp only [Bool.and_eq_true, Hz] at h
 obtain ⟨h1, h2⟩ := Ar6 hw hl hr h
 exact ⟨h1, h2, hr⟩
theorem Aj9 {x y r : Int} (hx : 0 ≤ x ∧ x ≤ 4194304) (hy : 0 ≤ y ∧ y ≤ 4194304) (hr : 1 ≤ r ∧ r ≤ 8192) : Ro x y r = 0 := by
 unfold Ro Iv fpt Aw
 rw [decide_eq_true (show -4194304 ≤ x ∧ x ≤ 4194304 ∧ -4194304 ≤ y ∧ y ≤ 4194304 by omega), decide_eq_false (show ¬ r < 1 by omega), decide_eq_false (show ¬ 65536 < r by omega)]
 rfl
theorem Aja {a b : Int} (ha : 0 ≤ a ∧ a ≤ 4194304) (hb : 0 ≤ b ∧ b ≤ 4194304) : W64 (b - a) * W64 (b - a) = W64 (a - b) * W64 (a - b) := by
 rw [Bp (n := b - a) (by omega) (by omega), Bp (n := a - b) (by omega) (by omega)]
 grind
theorem Ayl {d o : TCT Al} (hd : On d) (ho : On o) : touB d o = Y5 d o := by
 have e : sqD d o = sqR d o := by
  unfold sqD sqR
  rw [Aja hd.x ho.x, Aja hd.y ho.y]
 have c1 : cdE d = 0 := Aj9 hd.x hd.y hd.r
 have c2 : cdE o = 0 := Aj9 ho.x ho.y ho.r
 unfold touB Y5 Aez
 rw [c1, c2, e]
 show decide (Aqp (sqR d o) (srD d o) < 0) = _
 unfold Aqp
 by_cases h : sqR d o < srD d o
 ·rw [decide_eq_true h]; rfl
 ·rw [decide_eq_false h, cond_false]
  cases decide (sqR d o > srD d o) <;> rfl
theorem N3 {α : Type} {p q : α → Bool} : ∀ {l : List α}, (∀ x ∈ l, p x = q x) → l.any p = l.any q
 | [], _ => rfl
 | x :: l, h => by rw [List.any_cons, List.any_cons, h x (List.mem_cons_self ..), N3 fun y hy => h y (List.mem_cons_of_mem _ hy)]
theorem B3x {w l : Int} (hw : 0 ≤ w ∧ w ≤ 4194304) (hl : 0 ≤ l ∧ l ≤ 4194304) {p : List (TCT Al)} (hr : ∀ d ∈ p, 1 ≤ d.2.1 ∧ d.2.1 ≤ 8192) : apF w l p = apR w l p := by
 have key := Abw (p := p) (ok1 := fun i d => Ok w l d && !(p.take i).any (touB d)) (ok2 := fun i d => Ok w l d && !(p.take i).any (Y5 d)) (Ok w l)
  (fun i hi hp => by
   cases hi' : Ok w l p[i] with
   | false => rfl
   | true =>
    have hd := Aj8 hw hl (hr _ (List.getElem_mem hi)) hi'
    rw [N3 fun o ho => Ayl hd (Aj8 hw hl (hr o (List.mem_of_mem_take ho)) (hp o ho))])
  (fun i x h => by simp only [Bool.and_eq_true] at h; exact h.1) p.length 0 (by omega) (fun o ho => by rw [List.take_zero] at ho; cases ho)
 rw [List.drop_zero] at key
 exact key
theorem B83 {h : TCT Bg} {d : TCT Al} (hd : d ∈ w2 h) : d.2.1 = h.2.2.2.1 := by
 unfold w2 at hd
 cases hb : h.2.2.2.2.1 with
 | true =>
  rw [hb] at hd
  have hd : d ∈ [Ny h.1 (W64 (h.2.1 - dW h)) h.2.2.2.1, Ny h.1 (W64 (h.2.1 + dW h)) h.2.2.2.1] := hd
  rcases List.mem_cons.1 hd with rfl | hd
  ·rfl
  ·rw [List.mem_singleton] at hd; subst hd; rfl
 | false =>
  rw [hb] at hd
  have hd : d ∈ [Ny (W64 (h.1 - dW h)) h.2.1 h.2.2.2.1, Ny (W64 (h.1 + dW h)) h.2.1 h.2.2.2.1] := hd
  rcases List.mem_cons.1 hd with rfl | hd
  ·rfl
  ·rw [List.mem_singleton] at hd; subst hd; rfl
theorem Ar7 {l : TCT An} (hh : (Ak l).all F3 = true) (hp : inR (Jz l).2.1 1 8192 = true) : ∀ d ∈ Ce l, 1 ≤ d.2.1 ∧ d.2.1 ≤ 8192 := by
 intro d hd
 unfold Ce at hd
 rw [List.mem_append, List.mem_singleton, List.mem_flatMap] at hd
 rcases hd with ⟨h, hm, hd⟩ | rfl
 ·have := List.all_eq_true.1 hh h hm
  unfold F3 at this
  simp only [Bool.and_eq_true, Hz] at this
  rw [B83 hd]
  exact this.2.2.2.2
 ·exact Hz.1 hp
theorem Ajb (l : TCT An) : Ar4 l = C8 l := by
 unfold Ar4 C8
 congr 2
 unfold okR okL
 cases hd : A8l l with
 | false => rfl
 | true =>
  have hd' := hd
  unfold A8l at hd'
  simp only [Bool.and_eq_true, Hz] at hd'
  obtain ⟨_, ⟨w1, w2'⟩, ⟨l1, l2⟩, _⟩ := hd'
  have hw : 0 ≤ l.2.1 ∧ l.2.1 ≤ 4194304 := ⟨Int.le_trans (by decide) w1, w2'⟩
  have hl : 0 ≤ l.2.2.1 ∧ l.2.2.1 ≤ 4194304 := ⟨Int.le_trans (by decide) l1, l2⟩
  unfold Ar3
  cases hh : (Ak l).all F3 with
  | false => cases inR (Jz l).2.1 1 8192 <;> cases A8m l <;> rfl
  | true =>
   cases hp : inR (Jz l).2.1 1 8192 with
   | false => rfl
   | true =>
    have hr := Ar7 hh hp
    rw [← B3x hw hl hr]
    cases ha : apF l.2.1 l.2.2.1 (Ce l) with
    | false => simp
    | true =>
     obtain ⟨j, hj⟩ := A4h (Ce l) 0 ha (Jz l) (by unfold Ce; simp)
     simp only [Bool.and_eq_true] at hj
     have on := Aj8 hw hl (Hz.1 hp) hj.1
     have e1 : inR (Jz l).1.1 0 4194304 = true := Hz.2 on.x
     have e2 : inR (Jz l).1.2.1 0 4194304 = true := Hz.2 on.y
     rw [e1, e2]
     simp
theorem A8q : A7 Tryz.prog 42 Ur := B2 Aqx 7 (fun x => Aqy x.1) Aqz fun x hok hw => by
 rw [← Ajb]
 exact Ar5 (of_decide_eq_true hok) (Fs hw.1.2.2.2.2.1) (Fs hw.1.2.2.2.2.2.2.2.2.1)
theorem is_aN : FnIs Tryz.prog (105, Tryz.f105) := ⟨Tryz.func105, by kernel_rfl, by kernel_rfl⟩
theorem is_aO : FnIs Tryz.prog (125, Tryz.f125) := ⟨Tryz.func125, by kernel_rfl, by kernel_rfl⟩
def Aym : List (Nat × PureT) := [(75, Ur), (140, N1), (42, Ur), (92, N1)]
theorem Ayn : Bu Tryz.prog Aym := A0 is_aK.plain A49 (A0 is_au.plain Abj (A0 is_aL.plain A8q (A0 is_ax.plain A43 A9)))
def Ho (l : TCT An) : List (TCT Al) := bif C8 l == 0 then Ce l else []
abbrev Pp : PureT := B4 [An] [.sl Al, cI] (fun x => decide ((x.1.1.size : Int) ≤ As .i64)) (fun x => (Ho x.1, C8 x.1, ()))
abbrev TPs := Tree (TCTs [.sl Al, cI])
def szT {β : Type} (l : TCT An) (k : Tree β) : Tree β := bif decide ((l.1.size : Int) ≤ As .i64) then k else .fail
theorem C5 {β : Type} {l : TCT An} {k : Tree β} (h : (l.1.size : Int) ≤ As .i64) : szT l k = k := by unfold szT; rw [decide_eq_true h]; rfl
def A4i (l : TCT An) : TPs := bif decide ((Ak l).length ≤ 1000) then .leaf (Ce l, 0, ()) else .fail
def Ayo (l : TCT An) : TPs := szT l (bif C8 l != 0 then .leaf ([], C8 l, ()) else A4i l)
def Ajc (l : TCT An) : TPs := szT l (bif C8 l != 0 then szT l (.leaf ([], C8 l, ())) else A4i l)
theorem A4j {l : TCT An} (h : C8 l = 0) : (Ak l).length ≤ 12 ∧ 1 ≤ (Ak l).length := by
 unfold C8 at h
 cases hm : Lc l with
 | true => rw [hm] at h; cases h
 | false =>
  unfold Lc at hm
  simp only [Bool.or_eq_false_iff, decide_eq_false_iff_not] at hm
  omega
theorem Ajd {l : TCT An} (h : C8 l = 0) : (A4i l).sat (fun y => y = (Ho l, C8 l, ())) := by
 have := A4j h
 unfold A4i Ho
 rw [decide_eq_true (show (Ak l).length ≤ 1000 by omega), h]
 exact rfl
theorem Awt {l : TCT An} : (bif C8 l != 0 then .leaf ([], C8 l, ()) else A4i l : TPs).sat (fun y => y = (Ho l, C8 l, ())) := by
 cases h : C8 l == 0 with
 | true =>
  have h' : C8 l = 0 := by simpa using h
  rw [show (C8 l != 0) = false by simp [h']]
  exact Ajd h'
 | false =>
  rw [show (C8 l != 0) = true by simpa using h]
  unfold Ho
  rw [h]
  exact rfl
theorem Abx : A7 Tryz.prog 105 Pp := B2 (Ad Ab Ayn (fns_cons is_aN A2)) 7 (fun x => Ayo x.1) (fun x => by kernel_rfl) fun x hok _ => by
 show (Ayo x.1).sat _
 unfold Ayo
 rw [C5 (of_decide_eq_true hok)]
 exact Awt
theorem Aje : A7 Tryz.prog 125 Pp := B2 (Ad Ab Ayn (fns_cons is_aO A2)) 7 (fun x => Ajc x.1) (fun x => by kernel_rfl) fun x hok _ => by
 show (Ajc x.1).sat _
 unfold Ajc
 rw [C5 (of_decide_eq_true hok), C5 (of_decide_eq_true hok)]
 exact Awt
theorem is_aP : FnIs Tryz.prog (160, Tryz.f160) := ⟨Tryz.func160, by kernel_rfl, by kernel_rfl⟩
theorem is_aQ : FnIs Tryz.prog (183, Tryz.f183) := ⟨Tryz.func183, by kernel_rfl, by kernel_rfl⟩
theorem is_aR : FnIs Tryz.prog (184, Tryz.f184) := ⟨Tryz.func184, by kernel_rfl, by kernel_rfl⟩
theorem is_aS : FnIs Tryz.prog (71, Tryz.f71) := ⟨Tryz.func71, by kernel_rfl, by kernel_rfl⟩
theorem is_aT : FnIs Tryz.prog (129, Tryz.f129) := ⟨Tryz.func129, by kernel_rfl, by kernel_rfl⟩
theorem is_aU : FnIs Tryz.prog (169, Tryz.f169) := ⟨Tryz.func169, by kernel_rfl, by kernel_rfl⟩
theorem is_aV : FnIs Tryz.prog (74, Tryz.f74) := ⟨Tryz.func74, by kernel_rfl, by kernel_rfl⟩
def onB (l : TCT An) (p : TCT cPt) : Bool := inR p.1 0 l.2.1 && inR p.2.1 0 l.2.2.1
def Sl (l : TCT An) (p : TCT cPt) : Int := W64 (W64 (min (W64 (Int.tdiv (W64 (p.2.1 * nyL l)) l.2.2.1)) (W64 (nyL l - 1)) * nxL l) + min (W64 (Int.tdiv (W64 (p.1 * nxL l)) l.2.1)) (W64 (nxL l - 1)))
def Ar8 (c : TCT C1) : TCT C1 := (c.1, c.2.1, c.2.2.1, ())
def zCe : TCT C1 := (0, 0, 0, ())
def Pq (l : TCT An) (p : TCT cPt) : Int := bif C8 l != 0 then C8 l else bif fpt p.1 p.2.1 then 0 else 2
def G7 (l : TCT An) (p : TCT cPt) : Int := bif Pq l p != 0 then Pq l p else bif onB l p then 0 else 5
def O4 (l : TCT An) (p : TCT cPt) : TCT C1 := bif G7 l p == 0 then Ar8 (Aq (Bt l) (Int.toNat (Sl l p)) (Ao C1)) else zCe
abbrev Pr : PureT := B4 [An, cPt] [C1, cI] (fun x => decide ((x.1.1.size : Int) ≤ As .i64)) (fun x => (((O4 x.1 x.2.1).1, (O4 x.1 x.2.1).2.1, (O4 x.1 x.2.1).2.2.1, ()), G7 x.1 x.2.1, ()))
abbrev TCe := Tree (TCTs [C1, cI])
def Ol (e : Int) : TCe := .leaf (zCe, e, ())
def Ajf (l : TCT An) (p : TCT cPt) : TCe := bif l.2.1 != 0 then bif l.2.2.1 != 0 then bif decide (0 ≤ Sl l p ∧ Sl l p < ((Bt l).length : Int)) then .leaf (Ar8 (Aq (Bt l) (Int.toNat (Sl l p)) (Ao C1)), 0, ()) else .fail else .fail else .fail
def Uu (l : TCT An) (p : TCT cPt) : TCe := bif inR p.1 0 l.2.1 then bif !inR p.2.1 0 l.2.2.1 then Ol 5 else Ajf l p else Ol 5
def Ar9 (l : TCT An) (p : TCT cPt) : TCe := szT l (bif C8 l != 0 then bif C8 l != 0 then Ol (C8 l) else Uu l p else bif Q1 p.1 p.2.1 != 0 then Ol 2 else Uu l p)
theorem Ara (x : TCTs [An, cPt]) : Ch (Ahh 2 Tryz.prog ((50, Q2) :: (132, Ls) :: Aym) [(160, Tryz.f160), (183, Tryz.f183), (184, Tryz.f184)]) 7 (.fn 160) (Co [An, cPt] x) Bl 0 (Hn Tryz.prog [C1, cI]) = Ar9 x.1 x.2.1 := by kernel_rfl
theorem Aby {a b c d : Int} (h0 : 0 ≤ a) (h1 : a ≤ c) (h2 : 0 ≤ b) (h3 : b ≤ d) : a * b ≤ c * d := Int.mul_le_mul h1 h3 h2 (by omega)
theorem A4k {y ny l : Int} (hl : 1 ≤ l ∧ l ≤ 4194304) (hy : 0 ≤ y ∧ y ≤ l) (hn : 1 ≤ ny ∧ ny ≤ 16) : 0 ≤ min (W64 (Int.tdiv (W64 (y * ny)) l)) (W64 (ny - 1)) ∧ min (W64 (Int.tdiv (W64 (y * ny)) l)) (W64 (ny - 1)) ≤ ny - 1 := by
 have h1 : 0 ≤ y * ny := Int.mul_nonneg hy.1 (by omega)
 have h2 : y * ny ≤ 4194304 * 16 := Aby hy.1 (by omega) (by omega) hn.2
 rw [Bp (n := y * ny) (by omega) (by omega), Int.tdiv_eq_ediv_of_nonneg h1]
 have h3 := Int.ediv_nonneg h1 (show 0 ≤ l by omega)
 have h4 := Int.ediv_le_self l h1
 rw [Bp (n := y * ny / l) (by omega) (by omega), Bp (n := ny - 1) (by omega) (by omega)]
 omega
theorem Ajg {i k nx ny : Int} (hx : 1 ≤ nx ∧ nx ≤ 16) (hy : 1 ≤ ny ∧ ny ≤ 16) (hi : 0 ≤ i ∧ i ≤ nx - 1) (hk : 0 ≤ k ∧ k ≤ ny - 1) : 0 ≤ W64 (W64 (k * nx) + i) ∧ W64 (W64 (k * nx) + i) < W64 (nx * ny) := by
 have h1 : 0 ≤ k * nx := Int.mul_nonneg hk.1 (by omega)
 have h2 : k * nx ≤ (ny - 1) * nx := Int.mul_le_mul_of_nonneg_right hk.2 (by omega)
 have h3 : nx * ny ≤ 16 * 16 := Aby (by omega) hx.2 (by omega) hy.2
 have h4 : (ny - 1) * nx = nx * ny - nx := by grind
 rw [Bp (n := k * nx) (by omega) (by omega), Bp (n := k * nx + i) (by omega) (by omega), Bp (n := nx * ny) (by omega) (by omega)]
 omega
structure LawOk (l : TCT An) : Prop where
 w : 65536 ≤ l.2.1 ∧ l.2.1 ≤ 4194304
 lg : 65536 ≤ l.2.2.1 ∧ l.2.2.1 ≤ 4194304
 nx : 1 ≤ nxL l ∧ nxL l ≤ 16
 ny : 1 ≤ nyL l ∧ nyL l ≤ 16
 n : ((Bt l).length : Int) = W64 (nxL l * nyL l)
 hs : (Ak l).all F3 = true
 cs : (Bt l).all G5 = true
 ap : apF l.2.1 l.2.2.1 (Ce l) = true
 hn : 1 ≤ (Ak l).length ∧ (Ak l).length ≤ 12
theorem Ajh {l : TCT An} (h : C8 l = 0) : LawOk l := by
 have hn := A4j h
 unfold C8 at h
 cases hm : Lc l with
 | true => rw [hm] at h; cases h
 | false =>
  rw [hm, cond_false] at h
  cases ho : okL l with
  | false => rw [ho] at h; cases h
  | true =>
   unfold okL A8l A8m at ho
   simp only [Bool.and_eq_true, Hz, Bool.not_eq_true', decide_eq_false_iff_not, bne_eq_false_iff_eq] at ho
   obtain ⟨⟨_, hw, hl, _⟩, hp, ⟨n1, n2, n3, n4, n5⟩, h1, h2, h3⟩ := ho
   exact ⟨hw, hl, ⟨Int.not_lt.1 n1, Int.not_lt.1 n2⟩, ⟨Int.not_lt.1 n3, Int.not_lt.1 n4⟩, n5, h1, h2, h3, hn.2, hn.1⟩
theorem Aji {l : TCT An} {p : TCT cPt} (h : C8 l = 0) (ho : onB l p = true) : Ajf l p = .leaf (Ar8 (Aq (Bt l) (Int.toNat (Sl l p)) (Ao C1)), 0, ()) := by
 have k := Ajh h
 unfold onB at ho
 simp only [Bool.and_eq_true, Hz] at ho
 have hw : 1 ≤ l.2.1 ∧ l.2.1 ≤ 4194304 := ⟨Int.le_trans (by decide) k.w.1, k.w.2⟩
 have hl : 1 ≤ l.2.2.1 ∧ l.2.2.1 ≤ 4194304 := ⟨Int.le_trans (by decide) k.lg.1, k.lg.2⟩
 have hc := Ajg k.nx k.ny (A4k hw ho.1 k.nx) (A4k hl ho.2 k.ny)
 rw [← k.n] at hc
 have e1 : (l.2.1 != 0) = true := by
  rw [bne_iff_ne]; intro e; rw [e] at hw; exact absurd hw.1 (by decide)
 have e2 : (l.2.2.1 != 0) = true := by
  rw [bne_iff_ne]; intro e; rw [e] at hl; exact absurd hl.1 (by decide)
 unfold Ajf
 rw [e1, e2, decide_eq_true (show 0 ≤ Sl l p ∧ Sl l p < ((Bt l).length : Int) from hc)]
 rfl
theorem Ajj {l : TCT An} {p : TCT cPt} (h : C8 l = 0) : Uu l p = bif onB l p then .leaf (Ar8 (Aq (Bt l) (Int.toNat (Sl l p)) (Ao C1)), 0, ()) else Ol 5 := by
 cases ho : onB l p with
 | true =>
  have := Aji h ho
  unfold Uu
  unfold onB at ho
  simp only [Bool.and_eq_true] at ho
  rw [ho.1, ho.2, this]
  rfl
 | false =>
  unfold Uu
  unfold onB at ho
  cases h1 : inR p.1 0 l.2.1 with
  | false => rfl
  | true =>
   rw [h1, Bool.true_and] at ho
   rw [ho]
   rfl
def A8r (l : TCT An) (p : TCT cPt) : TCTs [C1, cI] := (((O4 l p).1, (O4 l p).2.1, (O4 l p).2.2.1, ()), G7 l p, ())
theorem Ajk {l : TCT An} {p : TCT cPt} : (bif Pq l p != 0 then Ol (Pq l p) else Uu l p : TCe).sat (fun y => y = A8r l p) := by
 unfold A8r O4 G7
 cases h1 : Pq l p != 0 with
 | true =>
  have hne : (Pq l p == 0) = false := by
   rw [bne_iff_ne] at h1
   exact beq_eq_false_iff_ne.2 h1
  simp only [cond_true]
  rw [hne]
  exact rfl
 | false =>
  have hl : C8 l = 0 := by
   unfold Pq at h1
   cases h2 : C8 l != 0 with
   | true => rw [h2, cond_true] at h1; rw [h2] at h1; cases h1
   | false => exact bne_eq_false_iff_eq.1 h2
  simp only [cond_false]
  rw [Ajj hl]
  cases onB l p <;> exact rfl
theorem Abz (x y : Int) : (Q1 x y != 0) = !fpt x y := by unfold Q1; cases fpt x y <;> rfl
def B84 : List (Nat × PureT) := (50, Q2) :: (132, Ls) :: Aym
theorem B85 : Bu Tryz.prog B84 := A0 is_al.plain Tu (A0 is_aa.plain Kf Ayn)
theorem Arb {l : TCT An} {p : TCT cPt} (hs : (l.1.size : Int) ≤ As .i64) : (Ar9 l p).sat (fun y => y = A8r l p) := by
 have key := Ajk (l := l) (p := p)
 unfold Ar9
 rw [C5 hs, Abz]
 unfold Pq at key
 cases h : C8 l != 0 with
 | true =>
  rw [h] at key
  simp only [cond_true] at key ⊢
  rw [h] at key
  exact key
 | false =>
  rw [h] at key
  simp only [cond_false] at key ⊢
  cases hf : fpt p.1 p.2.1 with
  | true => rw [hf] at key; exact key
  | false => rw [hf] at key; exact key
theorem Ajl : A7 Tryz.prog 160 Pr := B2 (R7 (u := 2) Ab B85 (fns_cons is_aP (fns_cons is_aQ (fns_cons is_aR A2)))) 7 (fun x => Ar9 x.1 x.2.1) Ara fun x hok _ => Arb (of_decide_eq_true hok)
abbrev Awu : PureT := B4 [An, cPt] [cI] (fun x => decide ((x.1.1.size : Int) ≤ As .i64)) (fun x => (Pq x.1 x.2.1, ()))
def B86 : List (Nat × PureT) := [(42, Ur), (89, Ls)]
theorem B87 : Bu Tryz.prog B86 := A0 is_aL.plain A8q (A0 is_ab.plain Jy A9)
def Ajm (l : TCT An) (p : TCT cPt) : TEr := szT l (bif C8 l != 0 then szT l (.leaf (C8 l, ())) else bif inR p.1 (-4194304) 4194304 then bif !inR p.2.1 (-4194304) 4194304 then .leaf (2, ()) else .leaf (0, ()) else .leaf (2, ()))
theorem Ayp (x y : Int) : fpt x y = (inR x (-4194304) 4194304 && inR y (-4194304) 4194304) := by
 unfold fpt inR
 rw [Bool.eq_iff_iff]
 simp only [Bool.and_eq_true, decide_eq_true_eq]
 omega
theorem Ajn {l : TCT An} {p : TCT cPt} (hs : (l.1.size : Int) ≤ As .i64) : (Ajm l p).sat (fun y => y = (Pq l p, ())) := by
 unfold Ajm Pq
 rw [C5 hs, C5 hs, Ayp]
 cases C8 l != 0 with
 | true => exact rfl
 | false => cases inR p.1 (-4194304) 4194304 <;> cases inR p.2.1 (-4194304) 4194304 <;> exact rfl
theorem B3y : A7 Tryz.prog 129 Awu := B2 (Ad Ab B87 (fns_cons is_aT (fns_cons is_aU A2))) 7 (fun x => Ajm x.1 x.2.1) (fun x => by kernel_rfl) fun x hok _ => Ajn (of_decide_eq_true hok)
def B3z : List (Nat × PureT) := [(129, Awu), (89, Ls)]
theorem B40 : Bu Tryz.prog B3z := A0 is_aT.plain B3y (A0 is_ab.plain Jy A9)
def Ajo (l : TCT An) (p : TCT cPt) : TCe := szT l (bif Pq l p != 0 then szT l (Ol (Pq l p)) else Uu l p)
theorem Af0 : A7 Tryz.prog 71 Pr := B2 (Ad Ab B40 (fns_cons is_aS (fns_cons is_aV A2))) 7 (fun x => Ajo x.1 x.2.1) (fun x => by kernel_rfl) fun x hok _ => by
 show (Ajo x.1 x.2.1).sat _
 unfold Ajo
 rw [C5 (of_decide_eq_true hok), C5 (of_decide_eq_true hok)]
 exact Ajk
theorem is_aW : FnIs Tryz.prog (30, Tryz.f30) := ⟨Tryz.func30, by kernel_rfl, by kernel_rfl⟩
theorem is_aX : FnIs Tryz.prog (31, Tryz.f31) := ⟨Tryz.func31, by kernel_rfl, by kernel_rfl⟩
def A4 (g : TCT cGr) : List (TCT A3) := g.2.1
def okG (g : TCT cGr) : Bool := (A4 g).all Jq && Gh g.2.2.1.1 g.2.2.1.2.1
def groE (g : TCT cGr) : Int := bif C8 g.1 != 0 then C8 g.1 else bif decide (((A4 g).length : Int) < 1) || decide (((A4 g).length : Int) > 8) then 6 else bif okG g then 0 else 2
abbrev Arc : PureT := B4 [cGr] [cI] (fun x => decide ((x.1.1.1.size : Int) ≤ As .i64)) (fun x => (groE x.1, ()))
def plG : List (Nat × PureT) := [(75, Ur), (79, Dl), (76, A3x), (42, Ur), (81, Dl), (80, Jc)]
theorem puG : Bu Tryz.prog plG := A0 is_aK.plain A49 (A0 is_CheckBounce.plain Ju (A0 is_ar.plain Ahx (A0 is_aL.plain A8q (A0 is_rCheckBounce.plain M8 (A0 is_rCheckBall.plain A2f A9)))))
def Ajp (g : TCT cGr) : TEr := bif okE (Gh g.2.2.1.1 g.2.2.1.2.1) != 0 then .leaf (2, ()) else .leaf (0, ())
def T_G (g : TCT cGr) : TEr := szT g.1 (bif C8 g.1 != 0 then .leaf (C8 g.1, ()) else er (decide (((A4 g).length : Int) < 1)) 6 (er (decide (((A4 g).length : Int) > 8)) 6 (er ((A4 g).any (D7 ())) 2 (Ajp g))))
theorem Ayq (x : TCTs [cGr]) : Ch (ctx Tryz.prog plG [(30, Tryz.f30)]) 7 (.fn 30) (Co [cGr] x) Bl 0 (Hn Tryz.prog [cI]) = T_G x.1 := by kernel_rfl
theorem Ayr {g : TCT cGr} (hs : (g.1.1.size : Int) ≤ As .i64) : (T_G g).sat (fun y => y = (groE g, ())) := by
 unfold T_G groE okG Ajp
 have hq : (A4 g).any (D7 ()) = !(A4 g).all Jq := J8 Jq _
 rw [C5 hs, hq, U8, ← Ld]
 cases C8 g.1 != 0 with
 | true => exact rfl
 | false =>
  simp only [cond_false]
  cases decide (((A4 g).length : Int) < 1) || decide (((A4 g).length : Int) > 8) with
  | true => exact rfl
  | false => cases (A4 g).all Jq <;> cases Gh g.2.2.1.1 g.2.2.1.2.1 <;> exact rfl
theorem B88 : A7 Tryz.prog 30 Arc := B2 (Ad Ab puG (fns_cons is_aW A2)) 7 (fun x => T_G x.1) Ayq fun x hok _ => Ayr (of_decide_eq_true hok)
abbrev kGr : List SK := [.d .s, .d cI, .d cI, .d cI, .d (.sl Bg), .d cI, .d cI, .d cI, .d cI, .d cI, .d (.sl C1), .d (.sl A3), .d cI, .d cI]
def Af1 (x : SKTs kGr) : TCT cGr := ((x.1, x.2.1, x.2.2.1, x.2.2.2.1, x.2.2.2.2.1, ((x.2.2.2.2.2.1, x.2.2.2.2.2.2.1, ()), x.2.2.2.2.2.2.2.1, ()), x.2.2.2.2.2.2.2.2.1, x.2.2.2.2.2.2.2.2.2.1, x.2.2.2.2.2.2.2.2.2.2.1, ()), x.2.2.2.2.2.2.2.2.2.2.2.1, (x.2.2.2.2.2.2.2.2.2.2.2.2.1, x.2.2.2.2.2.2.2.2.2.2.2.2.2.1, ()), ())
def Ee (g : TCT cGr) : SKTs kGr := (g.1.1, g.1.2.1, g.1.2.2.1, g.1.2.2.2.1, g.1.2.2.2.2.1, g.1.2.2.2.2.2.1.1.1, g.1.2.2.2.2.2.1.1.2.1, g.1.2.2.2.2.2.1.2.1, g.1.2.2.2.2.2.2.1, g.1.2.2.2.2.2.2.2.1, g.1.2.2.2.2.2.2.2.2.1, g.2.1, g.2.2.1.1, g.2.2.1.2.1, ())
noncomputable def B41 : Code := (A8 (bodyOf Tryz.f31)).getD 0 .skip
def A8s : Lay := { keys := [1, 3], ks := [.p 0 0 0 0, .d cI], bs := [(0, 34, kGr)], n := 39, nx := 1000, marks := [] }
def B89 : Lay := { keys := [1], ks := [.p 0 0 0 0], bs := [(0, 34, kGr)], n := 39, nx := 1000, marks := [] }
def B42 : Lay := { keys := [2], ks := [.d cI], bs := [], n := 39, nx := 1000, marks := [] }
def A8t : XE → Lay := fun e => match e with | .ret => B42 | _ => B89
def Ajq (x : SKTs kGr) (i : Int) : A8s.T := (((), i, ()), (x, ()))
def Ajr : A1 A8t := ⟨.ret, ((2, ()), ())⟩
def Ajs (x : SKTs kGr) : A1 A8t := ⟨.exit 0, (((), ()), (x, ()))⟩
def blX (x : SKTs kGr) : List (TCT A3) := x.2.2.2.2.2.2.2.2.2.2.2.1
def Ac0 (b : TCT A3) : Bool := okE (K5 b.1 b.2.1) != 0
def Ac1 (g : A8s.T) : Tree (A8s.T ⊕ A1 A8t) := bif decide (g.1.2.1 < ((blX g.2.1).length : Int)) then bif decide (0 ≤ g.1.2.1 ∧ g.1.2.1 < ((blX g.2.1).length : Int)) then
 bif Ac0 (Aq (blX g.2.1) (Int.toNat g.1.2.1) (Ao A3)) then .leaf (.inr Ajr) else .leaf (.inl (Ajq g.2.1 (W64 (g.1.2.1 + 1)))) else .fail else .leaf (.inr (Ajs g.2.1))
def Ajt (g : A8s.T) : Nat := (blX g.2.1).length + 1
theorem B8a : Aj Tryz.prog 31 B41 (Ac A8s A8t (C3 [.ret, .exit 0] Ac1 Ajt)) := Ay (Ad Ab puG A2) 7 _ A8s A8t (fun e => by cases e <;> exact Nat.le_refl _) [.ret, .exit 0] Ac1 Ajt (fun g => by kernel_rfl)
noncomputable def B43 : Ctx := Hk Tryz.prog plG [(31, Tryz.f31)] [((31, 6), Ac A8s A8t (C3 [.ret, .exit 0] Ac1 Ajt))]
theorem Ard : CtxOk B43 := Bw Ab puG (fns_cons is_aX A2) (Bk (by kernel_rfl) (by kernel_rfl) B8a)
def Aju (x : SKTs kGr) : Option (A1 A8t) := iter Ac1 ((blX x).length + 1) (Ajq x 0)
def Are (g : TCT cGr) : TEr := szT g.1 (bif C8 g.1 != 0 then szT g.1 (.leaf (C8 g.1, ())) else er (decide (((A4 g).length : Int) < 1)) 6 (er (decide (((A4 g).length : Int) > 8)) 6 (
 bif isE .ret (Aju (Ee g)) then .leaf ((C0 .ret (Aju (Ee g))).1.1, ()) else bif isE (.exit 0) (Aju (Ee g)) then Ajp (Af1 (C0 (.exit 0) (Aju (Ee g))).2.1) else .fail)))
theorem Arf (x : TCTs [cGr]) : Ch B43 7 (.fn 31) (Co [cGr] x) Bl 0 (Hn Tryz.prog [cI]) = Are x.1 := by kernel_rfl
theorem Arg {g : TCT cGr} (hs : (g.1.1.size : Int) ≤ As .i64) (hb : ((A4 g).length : Int) ≤ As .i64) : (Are g).sat (fun y => y = (groE g, ())) := by
 have hy : Aju (Ee g) = some (bif (blX (Ee g)).any Ac0 then Ajr else Ajs (Ee g)) := K0 (blX (Ee g)) (Ao A3) (Ajq (Ee g)) Ac0 Ajr (Ajs (Ee g)) hb (fun _ => rfl)
 have hq : (blX (Ee g)).any Ac0 = !(A4 g).all Jq := by
  rw [← J8 Jq]
  exact N3 fun b _ => U8 _
 rw [hq] at hy
 unfold Are groE okG
 rw [C5 hs, C5 hs, hy, ← Ld]
 cases C8 g.1 != 0 with
 | true => exact rfl
 | false =>
  simp only [cond_false]
  cases decide (((A4 g).length : Int) < 1) || decide (((A4 g).length : Int) > 8) with
  | true => exact rfl
  | false =>
   cases (A4 g).all Jq with
   | false => exact rfl
   | true =>
    show (Ajp g).sat _
    unfold Ajp
    rw [U8]
    cases Gh g.2.2.1.1 g.2.2.1.2.1 <;> exact rfl
theorem B44 : A7 Tryz.prog 31 Arc := B2 Ard 7 (fun x => Are x.1) Arf fun x hok hw => Arg (of_decide_eq_true hok) (Fs hw.1.2.1)
theorem is_aY : FnIs Tryz.prog (73, Tryz.f73) := ⟨Tryz.func73, by kernel_rfl, by kernel_rfl⟩
abbrev Zg : PureT := B4 [An, cPt] [.b] (fun _ => true) (fun x => (onB x.1 x.2.1, ()))
def B45 (l : TCT An) (p : TCT cPt) : TBo := Pg (decide (0 ≤ p.1)) (Pg (decide (p.1 ≤ l.2.1)) (Pg (decide (0 ≤ p.2.1)) (.leaf (decide (p.2.1 ≤ l.2.2.1), ()))))
theorem Ays (l : TCT An) (p : TCT cPt) : onB l p = (decide (0 ≤ p.1) && (decide (p.1 ≤ l.2.1) && (decide (0 ≤ p.2.1) && decide (p.2.1 ≤ l.2.2.1)))) := by
 unfold onB inR
 simp only [Bool.and_assoc]
theorem Awv : A7 Tryz.prog 73 Zg := B2 (Ad Ab A9 (fns_cons is_aY A2)) 4 (fun x => B45 x.1 x.2.1) (fun x => by kernel_rfl) fun x _ _ => by
 show (B45 x.1 x.2.1).sat (fun y => y = (onB x.1 x.2.1, ()))
 rw [Ays]
 exact Fc (Fc (Fc (Yv _)))
theorem Aww : A7 Tryz.prog 74 Zg := B2 (Ad Ab (A0 is_ab.plain Jy A9) (fns_cons is_aV A2)) 4 (fun x => Pg (inR x.2.1.1 0 x.1.2.1) (.leaf (inR x.2.1.2.1 0 x.1.2.2.1, ()))) (fun x => by kernel_rfl) fun x _ _ => Fc (Yv _)
theorem is_aZ : FnIs Tryz.prog (32, Tryz.f32) := ⟨Tryz.func32, by kernel_rfl, by kernel_rfl⟩
theorem is_a0 : FnIs Tryz.prog (26, Tryz.f26) := ⟨Tryz.func26, by kernel_rfl, by kernel_rfl⟩
theorem is_a1 : FnIs Tryz.prog (70, Tryz.f70) := ⟨Tryz.func70, by kernel_rfl, by kernel_rfl⟩
abbrev kSt : List SK := [.d (.sl Ai), .d (.sl .b), .d cI, .d cI, .d cI]
abbrev bsS : List BK := [(0, 34, kGr), (1, 38, kSt)]
def Arh : List (Nat × PureT) := [(30, Arc), (82, E8), (31, Arc), (128, E8), (73, Zg), (74, Zg)]
theorem A8u : Bu Tryz.prog Arh := A0 is_aW.plain B88 (A0 is_CheckMotion.plain O7 (A0 is_aX.plain B44 (A0 is_rCheckMotion.plain M9 (A0 is_aY.plain Awv (A0 is_aV.plain Aww A9)))))
def inN {β : Type} (n : Nat) (i : Int) (k : Tree β) : Tree β := bif decide (0 ≤ i ∧ i < (n : Int)) then k else .fail
theorem Ef {β : Type} {n : Nat} {i : Int} {k : Tree β} (h : 0 ≤ i ∧ i < (n : Int)) : inN n i k = k := by unfold inN; rw [decide_eq_true h]; rfl
def Lv (b : TCT A3) (m : TCT Ai) : Bool := Q9 b.1 b.2.1 m.1.1 m.1.2.1 m.2.1.1 m.2.1.2.1 m.2.2.1.1 m.2.2.1.2.1
def atM (m : TCT Ai) : TCT cPt := (m.1.1, m.1.2.1, ())
def A8v {β : Type} (no : Nat) (i : Int) (o : Bool) (m : TCT Ai) (rt nx : Tree β) : Tree β := inN no i (bif o then bif !(m.2.1.1 == 0 && (m.2.1.2.1 == 0 && true)) then rt else nx else nx)
def Uv {β : Type} (nb no : Nat) (i : Int) (l : TCT An) (b : TCT A3) (o : Bool) (m : TCT Ai) (rt nx : Tree β) : Tree β :=
 inN nb i (bif okE (Lv b m) != 0 then rt else inN no i (bif !o then bif !onB l (atM m) then rt else A8v no i o m rt nx else A8v no i o m rt nx))
def lwG (x : SKTs kGr) : TCT An := (Af1 x).1
noncomputable def B46 : Code := (A8 (bodyOf Tryz.f32)).getD 0 .skip
def A4l : Lay := { keys := [2, 3, 30, 31, 32], ks := [.p 0 0 0 0, .p 1 0 0 0, .d (.sl Ai), .d cI, .d cI], bs := bsS, n := 106, nx := 1000, marks := [] }
def B8b : Lay := { keys := [2, 3], ks := [.p 0 0 0 0, .p 1 0 0 0], bs := bsS, n := 106, nx := 1000, marks := [] }
def B47 : Lay := { keys := [4], ks := [.d cI], bs := [], n := 106, nx := 1000, marks := [] }
def A15 : XE → Lay := fun e => match e with | .ret => B47 | _ => B8b
def Ac2 (x : SKTs kGr) (s : SKTs kSt) (m : List (TCT Ai)) (n i : Int) : A4l.T := (((), (), m, n, i, ()), (x, s, ()))
def Ac3 : A1 A15 := ⟨.ret, ((2, ()), ())⟩
def Ajv (x : SKTs kGr) (s : SKTs kSt) : A1 A15 := ⟨.exit 0, (((), (), ()), (x, s, ()))⟩
def otS (s : SKTs kSt) : List Bool := s.2.1
def Ac4 (g : A4l.T) : Tree (A4l.T ⊕ A1 A15) := bif decide (g.1.2.2.2.2.1 < g.1.2.2.2.1) then bif decide (0 ≤ g.1.2.2.2.2.1 ∧ g.1.2.2.2.2.1 < ((g.1.2.2.1 : List (TCT Ai)).length : Int)) then
 Uv (blX g.2.1).length (otS g.2.2.1).length g.1.2.2.2.2.1 (lwG g.2.1) (Aq (blX g.2.1) (Int.toNat g.1.2.2.2.2.1) (Ao A3)) (Aq (otS g.2.2.1) (Int.toNat g.1.2.2.2.2.1) (Ao .b)) (Aq g.1.2.2.1 (Int.toNat g.1.2.2.2.2.1) (Ao Ai))
  (.leaf (.inr Ac3)) (.leaf (.inl (Ac2 g.2.1 g.2.2.1 g.1.2.2.1 g.1.2.2.2.1 (W64 (g.1.2.2.2.2.1 + 1))))) else .fail else .leaf (.inr (Ajv g.2.1 g.2.2.1))
def Ajw (g : A4l.T) : Nat := (g.1.2.2.1 : List (TCT Ai)).length + 1
theorem B8c : Aj Tryz.prog 32 B46 (Ac A4l A15 (C3 [.ret, .exit 0] Ac4 Ajw)) := Ay (Ad Ab A8u A2) 7 _ A4l A15 (fun e => by cases e <;> exact Nat.le_refl _) [.ret, .exit 0] Ac4 Ajw (fun g => by kernel_rfl)
noncomputable def B48 : Code := (A8 (bodyOf Tryz.f70)).getD 0 .skip
def A16 : Lay := { keys := [2, 3, 5], ks := [.p 0 0 0 0, .p 1 0 0 0, .d cI], bs := bsS, n := 103, nx := 1000, marks := [] }
def B8d : Lay := { keys := [2, 3], ks := [.p 0 0 0 0, .p 1 0 0 0], bs := bsS, n := 103, nx := 1000, marks := [] }
def B49 : Lay := { keys := [4], ks := [.d cI], bs := [], n := 103, nx := 1000, marks := [] }
def Y6 : XE → Lay := fun e => match e with | .ret => B49 | _ => B8d
def A4m (x : SKTs kGr) (s : SKTs kSt) (i : Int) : A16.T := (((), (), i, ()), (x, s, ()))
def A4n : A1 Y6 := ⟨.ret, ((2, ()), ())⟩
def Ac5 (x : SKTs kGr) (s : SKTs kSt) : A1 Y6 := ⟨.exit 0, (((), (), ()), (x, s, ()))⟩
def msS (s : SKTs kSt) : List (TCT Ai) := s.1
def Ac6 (g : A16.T) : Tree (A16.T ⊕ A1 Y6) := bif decide (g.1.2.2.1 < ((blX g.2.1).length : Int)) then inN (msS g.2.2.1).length g.1.2.2.1 (
 Uv (blX g.2.1).length (otS g.2.2.1).length g.1.2.2.1 (lwG g.2.1) (Aq (blX g.2.1) (Int.toNat g.1.2.2.1) (Ao A3)) (Aq (otS g.2.2.1) (Int.toNat g.1.2.2.1) (Ao .b)) (Aq (msS g.2.2.1) (Int.toNat g.1.2.2.1) (Ao Ai))
  (.leaf (.inr A4n)) (.leaf (.inl (A4m g.2.1 g.2.2.1 (W64 (g.1.2.2.1 + 1)))))) else .leaf (.inr (Ac5 g.2.1 g.2.2.1))
def Ajx (g : A16.T) : Nat := (blX g.2.1).length + 1
theorem B8e : Aj Tryz.prog 70 B48 (Ac A16 Y6 (C3 [.ret, .exit 0] Ac6 Ajx)) := Ay (Ad Ab A8u A2) 7 _ A16 Y6 (fun e => by cases e <;> exact Nat.le_refl _) [.ret, .exit 0] Ac6 Ajx (fun g => by kernel_rfl)
def Ps (s : TCT cSt) : SKTs kSt := (s.1, s.2.1, s.2.2.1, s.2.2.2.1, s.2.2.2.2.1, ())
def A8w (s : SKTs kSt) : TCT cSt := (s.1, s.2.1, s.2.2.1, s.2.2.2.1, s.2.2.2.2.1, ())
def msT (s : TCT cSt) : List (TCT Ai) := s.1
def osT (s : TCT cSt) : List Bool := s.2.1
def okO (l : TCT An) (b : TCT A3) (o : Bool) (m : TCT Ai) : Bool := Lv b m && (bif o then m.2.1.1 == 0 && (m.2.1.2.1 == 0 && true) else onB l (atM m))
def okS (g : TCT cGr) (os : List Bool) (i : Nat) (m : TCT Ai) : Bool := okO g.1 (Aq (A4 g) i (Ao A3)) (Aq os i (Ao .b)) m
theorem Zh {G E : Type} {nb no : Nat} {i : Int} {l : TCT An} {b : TCT A3} {o : Bool} {m : TCT Ai} {rt : E} {nx : G} (h1 : 0 ≤ i ∧ i < (nb : Int)) (h2 : 0 ≤ i ∧ i < (no : Int)) :
  (Uv nb no i l b o m (.leaf (.inr rt)) (.leaf (.inl nx)) : Tree (G ⊕ E)).run = some (bif okO l b o m then .inl nx else .inr rt) := by
 unfold Uv A8v okO
 rw [Ef h1, U8, Ef h2, Ef h2]
 cases Lv b m with
 | false => rfl
 | true =>
  cases o with
  | false => cases onB l (atM m) <;> rfl
  | true => cases m.2.1.1 == 0 && (m.2.1.2.1 == 0 && true) <;> rfl
def B4a (g : TCT cGr) (s : TCT cSt) : Option (A1 A15) := iter Ac4 ((msT s).length + 1) (Ac2 (Ee g) (Ps s) s.1 (msT s).length 0)
def Ayt (g : TCT cGr) (s : TCT cSt) : Option (A1 Y6) := iter Ac6 ((A4 g).length + 1) (A4m (Ee g) (Ps s) 0)
theorem Ari {g : TCT cGr} {s : TCT cSt} (h1 : (msT s).length = (A4 g).length) (h2 : (osT s).length = (A4 g).length) (hm : ((msT s).length : Int) ≤ As .i64) :
  B4a g s = some (bif Gm (okS g (osT s)) 0 (msT s) then Ajv (Ee g) (Ps s) else Ac3) := by
 refine Us (msT s) (Ao Ai) (fun i => Ac2 (Ee g) (Ps s) s.1 (msT s).length i) (okS g (osT s))
  (fun i m => Uv (A4 g).length (osT s).length i g.1 (Aq (A4 g) (Int.toNat i) (Ao A3)) (Aq (osT s) (Int.toNat i) (Ao .b)) m (.leaf (.inr Ac3)) (.leaf (.inl (Ac2 (Ee g) (Ps s) s.1 (msT s).length (W64 (i + 1))))) : Int → TCT Ai → Tree (A4l.T ⊕ A1 A15)) Ac3 (Ajv (Ee g) (Ps s)) hm (fun i => rfl) fun i hi => ?_
 rw [Zh (by omega) (by omega), show Int.toNat (i : Int) = i from rfl, Cj hi hm]
 rfl
theorem Arj {g : TCT cGr} {s : TCT cSt} (h1 : (msT s).length = (A4 g).length) (h2 : (osT s).length = (A4 g).length) (hm : ((msT s).length : Int) ≤ As .i64) :
  Ayt g s = some (bif Gm (okS g (osT s)) 0 (msT s) then Ac5 (Ee g) (Ps s) else A4n) := by
 unfold Ayt
 rw [← h1]
 refine Us (msT s) (Ao Ai) (fun i => A4m (Ee g) (Ps s) i) (okS g (osT s))
  (fun i m => Uv (A4 g).length (osT s).length i g.1 (Aq (A4 g) (Int.toNat i) (Ao A3)) (Aq (osT s) (Int.toNat i) (Ao .b)) m (.leaf (.inr A4n)) (.leaf (.inl (A4m (Ee g) (Ps s) (W64 (i + 1))))) : Int → TCT Ai → Tree (A16.T ⊕ A1 Y6)) A4n (Ac5 (Ee g) (Ps s)) hm (fun i => ?_) fun i hi => ?_
 ·show (bif decide (i < ((A4 g).length : Int)) then inN (msT s).length i (Uv (A4 g).length (osT s).length i g.1 (Aq (A4 g) (Int.toNat i) (Ao A3)) (Aq (osT s) (Int.toNat i) (Ao .b)) (Aq (msT s) (Int.toNat i) (Ao Ai)) (.leaf (.inr A4n)) (.leaf (.inl (A4m (Ee g) (Ps s) (W64 (i + 1)))))) else .leaf (.inr (Ac5 (Ee g) (Ps s))) : Tree (A16.T ⊕ A1 Y6)) = _
  rw [← h1]
  rfl
 ·rw [Zh (by omega) (by omega), show Int.toNat (i : Int) = i from rfl, Cj hi hm]
  rfl
def A17 (n : Int) (s : TCT cSt) : Bool := decide (s.2.2.1 < 0) || (decide (s.2.2.1 ≥ n) || (decide (s.2.2.2.1 < 0) || (decide (s.2.2.2.1 > 8) || (decide (s.2.2.2.2.1 < 0) || decide (s.2.2.2.2.1 > 4000)))))
def Y7 (g : TCT cGr) (s : TCT cSt) : Bool := (((msT s).length : Int) == ((A4 g).length : Int)) && (((osT s).length : Int) == ((A4 g).length : Int))
def vaE (g : TCT cGr) (s : TCT cSt) : Int := bif Y7 g s then bif Gm (okS g (osT s)) 0 (msT s) then bif A17 (A4 g).length s then 2 else 0 else 2 else 17
def Dy (g : TCT cGr) (s : TCT cSt) : Int := bif groE g != 0 then groE g else vaE g s
abbrev B4b : PureT := B4 [cGr, cSt] [cI] (fun _ => true) (fun x => (vaE x.1 x.2.1, ()))
abbrev A4o : PureT := B4 [cGr, cSt] [cI] (fun x => decide ((x.1.1.1.size : Int) ≤ As .i64)) (fun x => (Dy x.1 x.2.1, ()))
def Ajy (n : Int) (s : TCT cSt) : TEr := er (decide (s.2.2.1 < 0)) 2 (er (decide (s.2.2.1 ≥ n)) 2 (er (decide (s.2.2.2.1 < 0)) 2 (er (decide (s.2.2.2.1 > 8)) 2 (er (decide (s.2.2.2.2.1 < 0)) 2 (er (decide (s.2.2.2.2.1 > 4000)) 2 (.leaf (0, ())))))))
theorem Ark (n : Int) (s : TCT cSt) : Ajy n s = er (A17 n s) 2 (.leaf (0, ())) := by
 unfold Ajy A17
 rw [Ld, Ld, Ld, Ld, Ld]
def Ajz (g : TCT cGr) (s : TCT cSt) (k : TEr) : TEr := er (((msT s).length : Int) != ((A4 g).length : Int)) 17 (er (((osT s).length : Int) != ((A4 g).length : Int)) 17 k)
theorem Arl (g : TCT cGr) (s : TCT cSt) (k : TEr) : Ajz g s k = er (!Y7 g s) 17 k := by
 unfold Ajz Y7
 rw [← Ld]
 congr 1
 cases h1 : ((msT s).length : Int) == ((A4 g).length : Int) <;> cases h2 : ((osT s).length : Int) == ((A4 g).length : Int) <;> simp [bne, h1, h2]
theorem Uw {g : TCT cGr} {s : TCT cSt} (h : Y7 g s = true) : (msT s).length = (A4 g).length ∧ (osT s).length = (A4 g).length := by
 unfold Y7 at h
 simp only [Bool.and_eq_true, beq_iff_eq] at h
 omega
def B8f (g : TCT cGr) (y : Option (A1 A15)) : TEr := bif isE .ret y then .leaf ((C0 .ret y).1.1, ()) else bif isE (.exit 0) y then Ajy (blX (C0 (.exit 0) y).2.1).length (A8w (C0 (.exit 0) y).2.2.1) else .fail
def B8g (g : TCT cGr) (y : Option (A1 Y6)) : TEr := bif isE .ret y then .leaf ((C0 .ret y).1.1, ()) else bif isE (.exit 0) y then Ajy (blX (C0 (.exit 0) y).2.1).length (A8w (C0 (.exit 0) y).2.2.1) else .fail
def Ayu (g : TCT cGr) (s : TCT cSt) : TEr := szT g.1 (bif groE g != 0 then .leaf (groE g, ()) else Ajz g s (B8f g (B4a g s)))
def Ayv (g : TCT cGr) (s : TCT cSt) : TEr := Ajz g s (B8g g (Ayt g s))
theorem Ak0 {g : TCT cGr} {s : TCT cSt} {k : TEr} (h : Y7 g s = true → k = bif Gm (okS g (osT s)) 0 (msT s) then Ajy (A4 g).length s else .leaf (2, ())) : (Ajz g s k).sat (fun y => y = (vaE g s, ())) := by
 rw [Arl]
 unfold vaE
 cases he : Y7 g s with
 | false => exact rfl
 | true =>
  rw [h he]
  cases Gm (okS g (osT s)) 0 (msT s) with
  | false => exact rfl
  | true =>
   simp only [Bool.not_true, cond_true]
   rw [Ark]
   cases A17 (A4 g).length s <;> exact rfl
theorem Arm {g : TCT cGr} {s : TCT cSt} (hs : (g.1.1.size : Int) ≤ As .i64) (hm : ((msT s).length : Int) ≤ As .i64) : (Ayu g s).sat (fun y => y = (Dy g s, ())) := by
 unfold Ayu Dy
 rw [C5 hs]
 cases groE g != 0 with
 | true => exact rfl
 | false =>
  simp only [cond_false]
  refine Ak0 fun he => ?_
  obtain ⟨h1, h2⟩ := Uw he
  rw [Ari h1 h2 hm]
  cases Gm (okS g (osT s)) 0 (msT s) <;> rfl
theorem Arn {g : TCT cGr} {s : TCT cSt} (hm : ((msT s).length : Int) ≤ As .i64) : (Ayv g s).sat (fun y => y = (vaE g s, ())) := by
 unfold Ayv
 refine Ak0 fun he => ?_
 obtain ⟨h1, h2⟩ := Uw he
 rw [Arj h1 h2 hm]
 cases Gm (okS g (osT s)) 0 (msT s) <;> rfl
noncomputable def B8h : Ctx := Hk Tryz.prog Arh [(32, Tryz.f32)] [((32, 7), Ac A4l A15 (C3 [.ret, .exit 0] Ac4 Ajw))]
theorem Aro : CtxOk B8h := Bw Ab A8u (fns_cons is_aZ A2) (Bk (by kernel_rfl) (by kernel_rfl) B8c)
theorem Arp : A7 Tryz.prog 32 A4o := B2 Aro 7 (fun x => Ayu x.1 x.2.1) (fun x => by kernel_rfl) fun x hok hw => Arm (of_decide_eq_true hok) (Fs hw.2.1.1)
noncomputable def B8i : Ctx := Hk Tryz.prog Arh [(70, Tryz.f70)] [((70, 4), Ac A16 Y6 (C3 [.ret, .exit 0] Ac6 Ajx))]
theorem Arq : CtxOk B8i := Bw Ab A8u (fns_cons is_a1 A2) (Bk (by kernel_rfl) (by kernel_rfl) B8e)
theorem Ak1 : A7 Tryz.prog 70 B4b := B2 Arq 7 (fun x => Ayv x.1 x.2.1) (fun x => by kernel_rfl) fun x _ hw => Arn (Fs hw.2.1.1)
def B4c : List (Nat × PureT) := (70, B4b) :: Arh
theorem B4d : Bu Tryz.prog B4c := A0 is_a1.plain Ak1 A8u
theorem A4p : A7 Tryz.prog 26 A4o := B2 (Ad Ab B4d (fns_cons is_a0 A2)) 7 (fun x => szT x.1.1 (bif groE x.1 != 0 then szT x.1.1 (.leaf (groE x.1, ())) else .leaf (vaE x.1 x.2.1, ()))) (fun x => by kernel_rfl) fun x hok _ => by
 rw [C5 (of_decide_eq_true hok), C5 (of_decide_eq_true hok)]
 show (bif groE x.1 != 0 then _ else _ : TEr).sat (fun y => y = (Dy x.1 x.2.1, ()))
 unfold Dy
 cases groE x.1 != 0 <;> exact rfl
end St
def Ar {S B : Type} (f : Nat → S → S ⊕ B) : Nat → Nat → S → S ⊕ B
 | _, 0, s => .inl s
 | i, k + 1, s => match f i s with
  | .inl s' => Ar f (i + 1) k s'
  | .inr b => .inr b
def Awx {G E S B : Type} (hd : Nat → S → G) (res : S ⊕ B → E) (i : Nat) : S ⊕ B → G ⊕ E
 | .inl s => .inl (hd (i + 1) s)
 | .inr b => .inr (res (.inr b))
theorem G8 {G E S B : Type} {st : G → Tree (G ⊕ E)} (n : Nat) (hd : Nat → S → G) (f : Nat → S → S ⊕ B) (res : S ⊕ B → E) (Inv : Nat → S → Prop)
  (h1 : ∀ i s, i < n → Inv i s → (st (hd i s)).run = some (Awx hd res i (f i s)))
  (h2 : ∀ i s s', i < n → Inv i s → f i s = .inl s' → Inv (i + 1) s')
  (h3 : ∀ s, Inv n s → (st (hd n s)).run = some (.inr (res (.inl s)))) :
  ∀ (k i : Nat) (s : S), i + k = n → Inv i s → iter st (k + 1) (hd i s) = some (res (Ar f i k s))
 | 0, i, s, hk, hi => by
  have e : i = n := by omega
  subst e
  exact Ek (h3 s hi)
 | k + 1, i, s, hk, hi => by
  have hlt : i < n := by omega
  have hr := h1 i s hlt hi
  unfold Ar
  cases hf : f i s with
  | inl s' =>
   rw [hf] at hr
   rw [Lb hr]
   exact G8 n hd f res Inv h1 h2 h3 k (i + 1) s' (by omega) (h2 i s s' hlt hi hf)
  | inr b =>
   rw [hf] at hr
   exact Ek hr
theorem Ax {S B : Type} {f : Nat → S → S ⊕ B} {Inv : Nat → S → Prop} {n : Nat} (h2 : ∀ i s s', i < n → Inv i s → f i s = .inl s' → Inv (i + 1) s') : ∀ (k i : Nat) (s s' : S), i + k = n → Inv i s → Ar f i k s = .inl s' → Inv n s'
 | 0, i, s, s', hk, hi, h => by
  have e : i = n := by omega
  subst e
  cases h
  exact hi
 | k + 1, i, s, s', hk, hi, h => by
  unfold Ar at h
  cases hf : f i s with
  | inl t => rw [hf] at h; exact Ax h2 k (i + 1) t s' (by omega) (h2 i s t (by omega) hi hf) h
  | inr b => rw [hf] at h; cases h
theorem Lw {β : Type} {h w : List β} {b : Nat} (k : h.length + w.length ≤ 1000000) (hb : b ≤ 48) : Ey h w b = true := by
 rw [Ka, decide_eq_true_iff]
 have h1 : ((h.length + w.length : Nat) : Int) ≤ 1000000 := by omega
 have h2 : (b : Int) ≤ 48 := by omega
 calc ((h.length + w.length : Nat) : Int) * b ≤ 1000000 * 48 := Int.mul_le_mul h1 h2 (by omega) (by decide)
  _ ≤ 140737488355328 := by decide
namespace St
theorem is_a2 : FnIs Tryz.prog (51, Tryz.f51) := ⟨Tryz.func51, by kernel_rfl, by kernel_rfl⟩
theorem is_a3 : FnIs Tryz.prog (36, Tryz.f36) := ⟨Tryz.func36, by kernel_rfl, by kernel_rfl⟩
theorem is_a4 : FnIs Tryz.prog (23, Tryz.f23) := ⟨Tryz.func23, by kernel_rfl, by kernel_rfl⟩
abbrev kSo : List SK := [.o 62 Ai, .o 4 .b, .d cI, .d cI, .d cI]
abbrev Ayw : List (Nat × PureT) := (32, A4o) :: (26, A4o) :: (103, Abi) :: B4c
theorem Ayx : Bu Tryz.prog Ayw := A0 is_aZ.plain Arp (A0 is_a0.plain A4p (A0 is_at.plain Aqc B4d))
def r0 : SKTs kSt := ([], [], 0, 0, 0, ())
def q0 (p : List (TCT cPt)) : SKTs kSt := ([], List.replicate (Int.toNat (p.length : Int)) false, 0, 0, 0, ())
def zS : TCT cSt := ([], [], 0, 0, 0, ())
def Y8 (s : TCT cSt) : TCT cSt := (s.1, s.2.1, s.2.2.1, s.2.2.2.1, s.2.2.2.2.1, ())
theorem Ars {g : TCT cGr} (h : groE g = 0) : 1 ≤ (A4 g).length ∧ (A4 g).length ≤ 8 := by
 unfold groE at h
 cases h1 : C8 g.1 != 0 with
 | true => rw [h1, cond_true] at h; rw [h] at h1; cases h1
 | false =>
  rw [h1, cond_false] at h
  cases h2 : decide (((A4 g).length : Int) < 1) || decide (((A4 g).length : Int) > 8) with
  | true => rw [h2] at h; cases h
  | false =>
   rw [Bool.or_eq_false_iff, decide_eq_false_iff_not, decide_eq_false_iff_not] at h2
   omega
def Gn (s : TCT cSt) : Bool := (msT s).all Hs
abbrev A18 : PureT := B4 [cSt] [.b] (fun _ => true) (fun x => (Gn x.1, ()))
theorem Af2 (s : TCT cSt) : (!(msT s).any (Ed ())) = Gn s := by
 have : (msT s).any (Ed ()) = !(msT s).all Hs := J8 Hs _
 rw [this, Bool.not_not]
 rfl
theorem Ak2 : A7 Tryz.prog 51 A18 := B2 (Ad Ab Ayx (fns_cons is_a2 (fns_cons is_aj A2))) 7 (fun x => .leaf (!(msT x.1).any (Ed ()), ())) (fun x => by kernel_rfl) fun x _ _ => by
 show _ = _
 rw [Af2]
noncomputable def B4e : Code := (A8 (bodyOf Tryz.f36)).getD 0 .skip
def A8x : Lay := { keys := [1, 3], ks := [.p 0 0 0 0, .d cI], bs := [(0, 38, kSt)], n := 19, nx := 1000, marks := [] }
def B8j : Lay := { keys := [], ks := [], bs := [], n := 19, nx := 1000, marks := [] }
def B4f : Lay := { keys := [2], ks := [.d .b], bs := [], n := 19, nx := 1000, marks := [] }
def A8y : XE → Lay := fun e => match e with | .ret => B4f | _ => B8j
def Ak3 (s : SKTs kSt) (i : Int) : A8x.T := (((), i, ()), (s, ()))
def Ak4 : A1 A8y := ⟨.ret, ((false, ()), ())⟩
def Ak5 : A1 A8y := ⟨.exit 0, ((), ())⟩
def A4q (m : TCT Ai) : Bool := !(m.2.1.1 == 0 && (m.2.1.2.1 == 0 && true))
theorem Art (m : TCT Ai) : A4q m = !Hs m := by unfold A4q Hs; rw [Bool.and_true]
def Ac7 (g : A8x.T) : Tree (A8x.T ⊕ A1 A8y) := bif decide (g.1.2.1 < ((msS g.2.1).length : Int)) then bif decide (0 ≤ g.1.2.1 ∧ g.1.2.1 < ((msS g.2.1).length : Int)) then
 bif A4q (Aq (msS g.2.1) (Int.toNat g.1.2.1) (Ao Ai)) then .leaf (.inr Ak4) else .leaf (.inl (Ak3 g.2.1 (W64 (g.1.2.1 + 1)))) else .fail else .leaf (.inr Ak5)
def Ak6 (g : A8x.T) : Nat := (msS g.2.1).length + 1
theorem B8k : Aj Tryz.prog 36 B4e (Ac A8x A8y (C3 [.ret, .exit 0] Ac7 Ak6)) := Ay (Ad Ab A8u A2) 7 _ A8x A8y (fun e => by cases e <;> exact Nat.le_refl _) [.ret, .exit 0] Ac7 Ak6 (fun g => by kernel_rfl)
noncomputable def B8l : Ctx := Hk Tryz.prog Ayw [(36, Tryz.f36)] [((36, 2), Ac A8x A8y (C3 [.ret, .exit 0] Ac7 Ak6))]
theorem Aru : CtxOk B8l := Bw Ab Ayx (fns_cons is_a3 A2) (Bk (by kernel_rfl) (by kernel_rfl) B8k)
def Arv (s : TCT cSt) : Option (A1 A8y) := iter Ac7 ((msT s).length + 1) (Ak3 (Ps s) 0)
def Ayy (s : TCT cSt) : TBo := bif isE .ret (Arv s) then .leaf ((C0 .ret (Arv s)).1.1, ()) else bif isE (.exit 0) (Arv s) then .leaf (true, ()) else .fail
theorem A8z : A7 Tryz.prog 36 A18 := B2 Aru 7 (fun x => Ayy x.1) (fun x => by kernel_rfl) fun x _ hw => by
 have hy : Arv x.1 = some (bif (msT x.1).any A4q then Ak4 else Ak5) := K0 (msT x.1) (Ao Ai) (Ak3 (Ps x.1)) A4q Ak4 Ak5 (Fs hw.1.1) (fun _ => rfl)
 have hq : (msT x.1).any A4q = !Gn x.1 := by
  unfold Gn
  rw [← J8 Hs]
  exact N3 fun m _ => Art m
 show (Ayy x.1).sat (fun y => y = (Gn x.1, ()))
 unfold Ayy
 rw [hy, hq]
 cases Gn x.1 <;> exact rfl
def Arw : List (Nat × PureT) := (51, A18) :: (36, A18) :: Ayw
theorem Ayz : Bu Tryz.prog Arw := A0 is_a2.plain Ak2 (A0 is_a3.plain A8z Ayx)
end St
end V
end Go.Proofs.YtkiaifmbbnnliaaGreat
