import Derived.Test.YtkiaifmbbnnliaaGreatSd
import Derived.Test.YtkiaifmbbnnliaaGreatTV
import Derived.Test.YtkiaifmbbnnliaaGreatUj
import Derived.Test.YtkiaifmbbnnliaaGreatBa
import Derived.Test.YtkiaifmbbnnliaaGreatZd
import Derived.Test.YtkiaifmbbnnliaaGreatZe
namespace Go.Proofs.YtkiaifmbbnnliaaGreat
open Go.RowKit
namespace V
abbrev N6 : PureT := B9 [cPt, cPt, cI] [cPt, cI] (fun _ => true) (fun x => (((TwR x.1.1 x.1.2.1 x.2.1.1 x.2.1.2.1 x.2.2.1).1.1, (TwR x.1.1 x.1.2.1 x.2.1.1 x.2.1.2.1 x.2.2.1).1.2, ()), (TwR x.1.1 x.1.2.1 x.2.1.1 x.2.1.2.1 x.2.2.1).2, ()))
theorem Ahy : A7 Tryz.prog 56 N6 := Ace
theorem A9q : A7 Tryz.prog 62 N6 := A7z
theorem is_aa : FnIs Tryz.prog (100, Tryz.f100) := ⟨Tryz.func100, by kernel_rfl, by kernel_rfl⟩
theorem B43 : A7 Tryz.prog 100 Nh := B6 (Ad Ab (A0 is_b3.plain Um Aa) (fns_cons is_aa A2)) 3
 (fun x => bif !fpt x.1.1 x.1.2.1 then .leaf (2, ()) else .leaf (0, ())) (fun x => by kernel_rfl) fun x _ _ => by
  show (bif !fpt x.1.1 x.1.2.1 then Tree.leaf ((2 : Int), ()) else Tree.leaf ((0 : Int), ())).sat (fun y => y = (Lu x.1.1 x.1.2.1, ()))
  unfold Lu
  cases fpt x.1.1 x.1.2.1 <;> exact rfl
namespace St
abbrev Bh : TC := .st [cI, cI, cI, cI, .b]
abbrev C7 : TC := .st [cI, cI, cI]
abbrev An : TC := .st [.s, cI, cI, cI, .sl Bh, Al, cI, cI, .sl C7]
abbrev cGr : TC := .st [An, .sl A4, D5]
abbrev cSt : TC := .st [.sl Aj, .sl .b, cI, cI, cI]
abbrev cBl : TC := .st [cI, cPt, cI, cI]
abbrev cKn : TC := .st [cI, cI, cI, cI, cI]
theorem is_ab : FnIs Tryz.prog (132, Tryz.f132) := ⟨Tryz.func132, by kernel_rfl, by kernel_rfl⟩
theorem is_ac : FnIs Tryz.prog (89, Tryz.f89) := ⟨Tryz.func89, by kernel_rfl, by kernel_rfl⟩
theorem is_ad : FnIs Tryz.prog (135, Tryz.f135) := ⟨Tryz.func135, by kernel_rfl, by kernel_rfl⟩
theorem is_ae : FnIs Tryz.prog (90, Tryz.f90) := ⟨Tryz.func90, by kernel_rfl, by kernel_rfl⟩
theorem is_af : FnIs Tryz.prog (138, Tryz.f138) := ⟨Tryz.func138, by kernel_rfl, by kernel_rfl⟩
theorem is_ag : FnIs Tryz.prog (91, Tryz.f91) := ⟨Tryz.func91, by kernel_rfl, by kernel_rfl⟩
theorem is_ah : FnIs Tryz.prog (134, Tryz.f134) := ⟨Tryz.func134, by kernel_rfl, by kernel_rfl⟩
theorem is_ai : FnIs Tryz.prog (137, Tryz.f137) := ⟨Tryz.func137, by kernel_rfl, by kernel_rfl⟩
theorem is_aj : FnIs Tryz.prog (77, Tryz.f77) := ⟨Tryz.func77, by kernel_rfl, by kernel_rfl⟩
theorem is_ak : FnIs Tryz.prog (104, Tryz.f104) := ⟨Tryz.func104, by kernel_rfl, by kernel_rfl⟩
theorem is_al : FnIs Tryz.prog (95, Tryz.f95) := ⟨Tryz.func95, by kernel_rfl, by kernel_rfl⟩
theorem is_am : FnIs Tryz.prog (50, Tryz.f50) := ⟨Tryz.func50, by kernel_rfl, by kernel_rfl⟩
def inR (x lo hi : Int) : Bool := decide (lo ≤ x) && decide (x ≤ hi)
abbrev Lz : PureT := B9 [cI, cI, cI] [.b] (fun _ => true) (fun x => (inR x.1 x.2.1 x.2.2.1, ()))
abbrev TBo := Tree (TCTs [.b])
def Pm (a : Bool) (t : TBo) : TBo := bif a then t else .leaf (false, ())
theorem Fv {a b : Bool} {t : TBo} (h : t.sat (fun y => y = (b, ()))) : (Pm a t).sat (fun y => y = (a && b, ())) := by
 unfold Pm
 cases a with
 | true => rw [Bool.true_and]; exact h
 | false => exact rfl
theorem Zw (b : Bool) : (Tree.leaf (b, ()) : TBo).sat (fun y => y = (b, ())) := rfl
theorem Km : A7 Tryz.prog 132 Lz := B6 (Ad Ab Aa (fns_cons is_ab A2)) 3 (fun x => Pm (decide (x.2.1 ≤ x.1)) (.leaf (decide (x.1 ≤ x.2.2.1), ()))) (fun x => by kernel_rfl) fun _ _ _ => Fv (Zw _)
theorem K2 : A7 Tryz.prog 89 Lz := B6 (Ad Ab Aa (fns_cons is_ac A2)) 3 (fun x => Pm (decide (x.2.1 ≤ x.1)) (.leaf (decide (x.1 ≤ x.2.2.1), ()))) (fun x => by kernel_rfl) fun _ _ _ => Fv (Zw _)
def Bfh : List (Nat × PureT) := [(132, Lz), (89, Lz)]
theorem Av6 : By Tryz.prog Bfh := A0 is_ab.plain Km (A0 is_ac.plain K2 Aa)
def Fl (h : TCT Bh) : Bool := inR h.1 0 4194304 && (inR h.2.1 0 4194304 && (inR h.2.2.1 2 32768 && ((Int.tmod h.2.2.1 2 == 0) && inR h.2.2.2.1 1 8192)))
def Gf (c : TCT C7) : Bool := inR c.1 0 65536 && (inR c.2.1 (-4096) 4096 && inR c.2.2.1 (-4096) 4096)
abbrev A1y : PureT := B9 [Bh] [.b] (fun _ => true) (fun x => (Fl x.1, ()))
abbrev A1z : PureT := B9 [C7] [.b] (fun _ => true) (fun x => (Gf x.1, ()))
def A20 (h : TCT Bh) : TBo := Pm (inR h.1 0 4194304) (Pm (inR h.2.1 0 4194304) (Pm (inR h.2.2.1 2 32768) (Pm (Int.tmod h.2.2.1 2 == 0) (.leaf (inR h.2.2.2.1 1 8192, ())))))
def A21 (c : TCT C7) : TBo := Pm (inR c.1 0 65536) (Pm (inR c.2.1 (-4096) 4096) (.leaf (inR c.2.2.1 (-4096) 4096, ())))
theorem Uz (h : TCT Bh) : (A20 h).sat (fun y => y = (Fl h, ())) := Fv (Fv (Fv (Fv (Zw _))))
theorem V0 (c : TCT C7) : (A21 c).sat (fun y => y = (Gf c, ())) := Fv (Fv (Zw _))
theorem A4m : A7 Tryz.prog 135 A1y := B6 (Ad Ab Av6 (fns_cons is_ad A2)) 3 (fun x => A20 x.1) (fun x => by kernel_rfl) fun x _ _ => Uz x.1
theorem Av7 : A7 Tryz.prog 90 A1y := B6 (Ad Ab Av6 (fns_cons is_ae A2)) 3 (fun x => A20 x.1) (fun x => by kernel_rfl) fun x _ _ => Uz x.1
theorem A4n : A7 Tryz.prog 138 A1z := B6 (Ad Ab Av6 (fns_cons is_af A2)) 3 (fun x => A21 x.1) (fun x => by kernel_rfl) fun x _ _ => V0 x.1
theorem Al2 : A7 Tryz.prog 91 A1z := B6 (Ad Ab Av6 (fns_cons is_ag A2)) 3 (fun x => A21 x.1) (fun x => by kernel_rfl) fun x _ _ => V0 x.1
def O6 (m : TCT Aj) : Bool := m.2.1.1 == 0 && m.2.1.2.1 == 0
def Jr (b : TCT A4) : Bool := K8 b.1 b.2.1
abbrev Ba0 : PureT := B9 [Bh] [.b] (fun _ => true) (fun x => (!Fl x.1, ()))
abbrev Ba1 : PureT := B9 [C7] [.b] (fun _ => true) (fun x => (!Gf x.1, ()))
abbrev B1p : PureT := B9 [A4] [.b] (fun _ => true) (fun x => (!Jr x.1, ()))
abbrev B1q : PureT := B9 [Aj] [.b] (fun _ => true) (fun x => (!O6 x.1, ()))
abbrev B1r : PureT := B9 [cPt] [.b] (fun _ => true) (fun x => (!fpt x.1.1 x.1.2.1, ()))
theorem Bfi : A7 Tryz.prog 134 Ba0 := B6 (Ad Ab (A0 is_ad.plain A4m Aa) (fns_cons is_ah A2)) 3 (fun x => .leaf (!Fl x.1, ())) (fun x => by kernel_rfl) fun _ _ _ => rfl
theorem Bfj : A7 Tryz.prog 137 Ba1 := B6 (Ad Ab (A0 is_af.plain A4n Aa) (fns_cons is_ai A2)) 3 (fun x => .leaf (!Gf x.1, ())) (fun x => by kernel_rfl) fun _ _ _ => rfl
theorem V1 (b : Bool) : (okE b != 0) = !b := by unfold okE; cases b <;> rfl
theorem Ba2 : A7 Tryz.prog 77 B1p := B6 (Ad Ab (A0 is_CheckBall.plain T6 Aa) (fns_cons is_aj A2)) 3 (fun x => .leaf (okE (K8 x.1.1 x.1.2.1) != 0, ())) (fun x => by kernel_rfl) fun x _ _ => by
 show (okE (K8 x.1.1 x.1.2.1) != 0, ()) = (!Jr x.1, ())
 rw [V1]; rfl
theorem Ba3 : A7 Tryz.prog 104 B1q := B6 (Ad Ab Aa (fns_cons is_ak A2)) 3 (fun x => .leaf (!(x.1.2.1.1 == 0 && (x.1.2.1.2.1 == 0 && true)), ())) (fun x => by kernel_rfl) fun x _ _ => by
 show (!(x.1.2.1.1 == 0 && (x.1.2.1.2.1 == 0 && true)), ()) = (!O6 x.1, ())
 rw [Bool.and_true]; rfl
theorem Ba4 : A7 Tryz.prog 95 B1r := B6 (Ad Ab (A0 is_am.plain A3f Aa) (fns_cons is_al A2)) 3 (fun x => .leaf (Lu x.1.1 x.1.2.1 != 0, ())) (fun x => by kernel_rfl) fun x _ _ => by
 show (Lu x.1.1 x.1.2.1 != 0, ()) = (!fpt x.1.1 x.1.2.1, ())
 unfold Lu
 cases fpt x.1.1 x.1.2.1 <;> rfl
def A22 : List (Nat × PureT) := [(134, Ba0), (137, Ba1), (77, B1p), (104, B1q), (95, B1r)]
theorem A4o : By Tryz.prog A22 := A0 is_ah.plain Bfi (A0 is_ai.plain Bfj (A0 is_aj.plain Ba2 (A0 is_ak.plain Ba3 (A0 is_al.plain Ba4 Aa))))
theorem is_an : FnIs Tryz.prog (172, Tryz.f172) := ⟨Tryz.func172, by kernel_rfl, by kernel_rfl⟩
theorem is_ao : FnIs Tryz.prog (133, Tryz.f133) := ⟨Tryz.func133, by kernel_rfl, by kernel_rfl⟩
abbrev Hh : List SK := []
def Dj (k : SKTs Hh) (x : TCT (Bh)) : Bool := !Fl x
noncomputable def Zx : Code := (A8 (bodyOf Tryz.f172)).getD 0 .skip
def Ip : Lay := { keys := [0, 1, 7, 8], ks := [.d (.sl (Bh)), .f 134 [] Hh, .d cI, .d cI], bs := [], n := 19, nx := 1000, marks := [] }
def Ahz : Lay := { keys := [4], ks := [.d cI], bs := [], n := 19, nx := 1000, marks := [] }
def Ai0 : Lay := { keys := [], ks := [], bs := [], n := 19, nx := 1000, marks := [] }
def Ho : XE → Lay
 | .ret => Ahz
 | _ => Ai0
def Zy (k : SKTs Hh) (l : List (TCT (Bh))) (n i : Int) : Ip.T := ((l, ((), k), n, i, ()), ())
def Pn (i : Int) : A1 Ho := ⟨.ret, ((i, ()), ())⟩
def Po : A1 Ho := ⟨.exit 0, ((), ())⟩
def J4 (k : SKTs Hh) (l : List (TCT (Bh))) (n : Int) (x : TCT (Bh)) (i : Int) : Tree (Ip.T ⊕ A1 Ho) := bif Dj k x then .leaf (.inr (Pn i)) else .leaf (.inl (Zy k l n (W64 (i + 1))))
def Ai1 (k : SKTs Hh) (l : List (TCT (Bh))) (n i : Int) : Tree (Ip.T ⊕ A1 Ho) :=
 bif decide (i < n) then bif decide (0 ≤ i ∧ i < (l.length : Int)) then J4 k l n (At l i.toNat (Aq (Bh))) i else .fail else .leaf (.inr Po)
def Ok (g : Ip.T) : Tree (A1 Ho) :=
 .br (N3 g.1.2.2.1 g.1.2.2.2.1 g.1.1) (.br (g.1.1.any (Dj g.1.2.1.2)) (.leaf (Pn (g.1.1.findIdx (Dj g.1.2.1.2)))) (.leaf Po)) .fail
theorem Al3 : Ae Tryz.prog 172 Zx (A9 Ip Ho Ok) := by
 refine E0 (X := ctx Tryz.prog A22 []) (Ad Ab A4o A2) 7 172 (fun _ => none) (fun _ _ f h => by simp at h) Ip Ho (fun e => by cases e <;> exact Nat.le_refl _) Ok (fun g => Ai1 g.1.2.1.2 g.1.1 g.1.2.2.1 g.1.2.2.2.1) (fun g => by kernel_rfl) ?_
 rintro ⟨⟨l, ⟨⟨⟩, k⟩, n, i, ⟨⟩⟩, ⟨⟩⟩ R hw hf
 obtain ⟨hf, h0⟩ := hf
 by_cases hc : n = (l.length : Int) ∧ i = 0
 ·obtain ⟨rfl, rfl⟩ := hc
  have hf := hf (decide_eq_true ⟨rfl, rfl⟩)
  refine B1j l (Aq (Bh)) (Es hw.1.1) (fun n i _ => Zy k l n i) (fun x i (_ : Unit) => bif Dj k x then .inr (Pn i) else .inl ()) (fun _ => Po) (fun _ => True) (fun x i _ => J4 k l l.length x i) (fun i _ => rfl) ?_ () trivial ?_
  ·intro i _ hi Q _ _ hw1 hQ
   show (J4 k l l.length l[i] i).sat Q
   unfold J4
   rw [hw1]
   cases hp : Dj k l[i] with
   | true => rw [hp] at hQ; exact hQ
   | false => rw [hp] at hQ; exact hQ trivial
  ·rw [Rb (Dj k) (fun i => Pn i) Po l 0, Nat.zero_add]
   cases ha : l.any (Dj k) with
   | true => exact hf.1 ha
   | false => exact hf.2 ha
 ·exact (h0 (decide_eq_false hc)).elim
abbrev Al4 : PureT := Lo [.d (.sl (Bh)), .f 134 [] Hh] [cI] (fun _ => true) (fun x => (bif x.1.any (Dj x.2.1.2) then (x.1.findIdx (Dj x.2.1.2) : Int) else -1, ()))
noncomputable def Al5 : Ctx := Gu Tryz.prog A22 [(172, Tryz.f172)] [((172, keyOf Zx), A9 Ip Ho Ok)]
theorem A4p : CtxOk Al5 := Bx Ab A4o (fns_cons is_an A2) (Bg rfl (by kernel_rfl) Al3)
def A4q (k : SKTs Hh) (l : List (TCT (Bh))) : Tree (Int × Unit) := bif N3 (l.length : Int) 0 l then bif l.any (Dj k) then .leaf ((l.findIdx (Dj k) : Int), ()) else .leaf (-1, ()) else .fail
theorem A4r (k : SKTs Hh) (l : List (TCT (Bh))) : (A4q k l).sat (fun y => y = (bif l.any (Dj k) then (l.findIdx (Dj k) : Int) else -1, ())) := by
 refine R6 (decide_eq_true ⟨rfl, rfl⟩) ?_
 cases l.any (Dj k) <;> exact rfl
theorem Al6 : A7 Tryz.prog 172 Al4 := Ts A4p 8 (fun x => A4q x.2.1.2 x.1) (fun x => by kernel_rfl) fun x _ _ => A4r _ _
abbrev A4s : PureT := Lo [.d (.sl (Bh)), .f 134 [] Hh] [.b] (fun _ => true) (fun x => (x.1.any (Dj x.2.1.2), ()))
theorem A4t (k : SKTs Hh) (l : List (TCT (Bh))) : (Tree.leaf (decide ((bif l.any (Dj k) then (l.findIdx (Dj k) : Int) else -1) ≥ 0), ()) : Tree (Bool × Unit)).sat (fun y => y = (l.any (Dj k), ())) := by
 rw [Ux]; exact rfl
theorem Al7 : A7 Tryz.prog 133 A4s := Ts (Ad Ab (A0 is_an.plain Al6 Aa) (fns_cons is_ao A2)) 8 (fun x => .leaf (decide ((bif x.1.any (Dj x.2.1.2) then (x.1.findIdx (Dj x.2.1.2) : Int) else -1) ≥ 0), ())) (fun x => by kernel_rfl) fun x _ _ => A4t _ _
theorem is_ap : FnIs Tryz.prog (173, Tryz.f173) := ⟨Tryz.func173, by kernel_rfl, by kernel_rfl⟩
theorem is_aq : FnIs Tryz.prog (136, Tryz.f136) := ⟨Tryz.func136, by kernel_rfl, by kernel_rfl⟩
abbrev Hi : List SK := []
def Dk (k : SKTs Hi) (x : TCT (C7)) : Bool := !Gf x
noncomputable def Zz : Code := (A8 (bodyOf Tryz.f173)).getD 0 .skip
def Iq : Lay := { keys := [0, 1, 7, 8], ks := [.d (.sl (C7)), .f 137 [] Hi, .d cI, .d cI], bs := [], n := 19, nx := 1000, marks := [] }
def Ai2 : Lay := { keys := [4], ks := [.d cI], bs := [], n := 19, nx := 1000, marks := [] }
def Ai3 : Lay := { keys := [], ks := [], bs := [], n := 19, nx := 1000, marks := [] }
def Hp : XE → Lay
 | .ret => Ai2
 | _ => Ai3
def A00 (k : SKTs Hi) (l : List (TCT (C7))) (n i : Int) : Iq.T := ((l, ((), k), n, i, ()), ())
def Pp (i : Int) : A1 Hp := ⟨.ret, ((i, ()), ())⟩
def Pq : A1 Hp := ⟨.exit 0, ((), ())⟩
def J5 (k : SKTs Hi) (l : List (TCT (C7))) (n : Int) (x : TCT (C7)) (i : Int) : Tree (Iq.T ⊕ A1 Hp) := bif Dk k x then .leaf (.inr (Pp i)) else .leaf (.inl (A00 k l n (W64 (i + 1))))
def Ai4 (k : SKTs Hi) (l : List (TCT (C7))) (n i : Int) : Tree (Iq.T ⊕ A1 Hp) :=
 bif decide (i < n) then bif decide (0 ≤ i ∧ i < (l.length : Int)) then J5 k l n (At l i.toNat (Aq (C7))) i else .fail else .leaf (.inr Pq)
def Ol (g : Iq.T) : Tree (A1 Hp) :=
 .br (N3 g.1.2.2.1 g.1.2.2.2.1 g.1.1) (.br (g.1.1.any (Dk g.1.2.1.2)) (.leaf (Pp (g.1.1.findIdx (Dk g.1.2.1.2)))) (.leaf Pq)) .fail
theorem Al8 : Ae Tryz.prog 173 Zz (A9 Iq Hp Ol) := by
 refine E0 (X := ctx Tryz.prog A22 []) (Ad Ab A4o A2) 7 173 (fun _ => none) (fun _ _ f h => by simp at h) Iq Hp (fun e => by cases e <;> exact Nat.le_refl _) Ol (fun g => Ai4 g.1.2.1.2 g.1.1 g.1.2.2.1 g.1.2.2.2.1) (fun g => by kernel_rfl) ?_
 rintro ⟨⟨l, ⟨⟨⟩, k⟩, n, i, ⟨⟩⟩, ⟨⟩⟩ R hw hf
 obtain ⟨hf, h0⟩ := hf
 by_cases hc : n = (l.length : Int) ∧ i = 0
 ·obtain ⟨rfl, rfl⟩ := hc
  have hf := hf (decide_eq_true ⟨rfl, rfl⟩)
  refine B1j l (Aq (C7)) (Es hw.1.1) (fun n i _ => A00 k l n i) (fun x i (_ : Unit) => bif Dk k x then .inr (Pp i) else .inl ()) (fun _ => Pq) (fun _ => True) (fun x i _ => J5 k l l.length x i) (fun i _ => rfl) ?_ () trivial ?_
  ·intro i _ hi Q _ _ hw1 hQ
   show (J5 k l l.length l[i] i).sat Q
   unfold J5
   rw [hw1]
   cases hp : Dk k l[i] with
   | true => rw [hp] at hQ; exact hQ
   | false => rw [hp] at hQ; exact hQ trivial
  ·rw [Rb (Dk k) (fun i => Pp i) Pq l 0, Nat.zero_add]
   cases ha : l.any (Dk k) with
   | true => exact hf.1 ha
   | false => exact hf.2 ha
 ·exact (h0 (decide_eq_false hc)).elim
abbrev Al9 : PureT := Lo [.d (.sl (C7)), .f 137 [] Hi] [cI] (fun _ => true) (fun x => (bif x.1.any (Dk x.2.1.2) then (x.1.findIdx (Dk x.2.1.2) : Int) else -1, ()))
noncomputable def Ala : Ctx := Gu Tryz.prog A22 [(173, Tryz.f173)] [((173, keyOf Zz), A9 Iq Hp Ol)]
theorem A4u : CtxOk Ala := Bx Ab A4o (fns_cons is_ap A2) (Bg rfl (by kernel_rfl) Al8)
def A4v (k : SKTs Hi) (l : List (TCT (C7))) : Tree (Int × Unit) := bif N3 (l.length : Int) 0 l then bif l.any (Dk k) then .leaf ((l.findIdx (Dk k) : Int), ()) else .leaf (-1, ()) else .fail
theorem A4w (k : SKTs Hi) (l : List (TCT (C7))) : (A4v k l).sat (fun y => y = (bif l.any (Dk k) then (l.findIdx (Dk k) : Int) else -1, ())) := by
 refine R6 (decide_eq_true ⟨rfl, rfl⟩) ?_
 cases l.any (Dk k) <;> exact rfl
theorem Alb : A7 Tryz.prog 173 Al9 := Ts A4u 8 (fun x => A4v x.2.1.2 x.1) (fun x => by kernel_rfl) fun x _ _ => A4w _ _
abbrev A4x : PureT := Lo [.d (.sl (C7)), .f 137 [] Hi] [.b] (fun _ => true) (fun x => (x.1.any (Dk x.2.1.2), ()))
theorem A4y (k : SKTs Hi) (l : List (TCT (C7))) : (Tree.leaf (decide ((bif l.any (Dk k) then (l.findIdx (Dk k) : Int) else -1) ≥ 0), ()) : Tree (Bool × Unit)).sat (fun y => y = (l.any (Dk k), ())) := by
 rw [Ux]; exact rfl
theorem Alc : A7 Tryz.prog 136 A4x := Ts (Ad Ab (A0 is_ap.plain Alb Aa) (fns_cons is_aq A2)) 8 (fun x => .leaf (decide ((bif x.1.any (Dk x.2.1.2) then (x.1.findIdx (Dk x.2.1.2) : Int) else -1) ≥ 0), ())) (fun x => by kernel_rfl) fun x _ _ => A4y _ _
theorem is_ar : FnIs Tryz.prog (141, Tryz.f141) := ⟨Tryz.func141, by kernel_rfl, by kernel_rfl⟩
theorem is_as : FnIs Tryz.prog (76, Tryz.f76) := ⟨Tryz.func76, by kernel_rfl, by kernel_rfl⟩
abbrev Hj : List SK := []
def Dl (k : SKTs Hj) (x : TCT (A4)) : Bool := !Jr x
noncomputable def A01 : Code := (A8 (bodyOf Tryz.f141)).getD 0 .skip
def Ir : Lay := { keys := [0, 1, 7, 8], ks := [.d (.sl (A4)), .f 77 [] Hj, .d cI, .d cI], bs := [], n := 19, nx := 1000, marks := [] }
def Ai5 : Lay := { keys := [4], ks := [.d cI], bs := [], n := 19, nx := 1000, marks := [] }
def Ai6 : Lay := { keys := [], ks := [], bs := [], n := 19, nx := 1000, marks := [] }
def Hq : XE → Lay
 | .ret => Ai5
 | _ => Ai6
def A02 (k : SKTs Hj) (l : List (TCT (A4))) (n i : Int) : Ir.T := ((l, ((), k), n, i, ()), ())
def Pr (i : Int) : A1 Hq := ⟨.ret, ((i, ()), ())⟩
def Ps : A1 Hq := ⟨.exit 0, ((), ())⟩
def J6 (k : SKTs Hj) (l : List (TCT (A4))) (n : Int) (x : TCT (A4)) (i : Int) : Tree (Ir.T ⊕ A1 Hq) := bif Dl k x then .leaf (.inr (Pr i)) else .leaf (.inl (A02 k l n (W64 (i + 1))))
def Ai7 (k : SKTs Hj) (l : List (TCT (A4))) (n i : Int) : Tree (Ir.T ⊕ A1 Hq) :=
 bif decide (i < n) then bif decide (0 ≤ i ∧ i < (l.length : Int)) then J6 k l n (At l i.toNat (Aq (A4))) i else .fail else .leaf (.inr Ps)
def Om (g : Ir.T) : Tree (A1 Hq) :=
 .br (N3 g.1.2.2.1 g.1.2.2.2.1 g.1.1) (.br (g.1.1.any (Dl g.1.2.1.2)) (.leaf (Pr (g.1.1.findIdx (Dl g.1.2.1.2)))) (.leaf Ps)) .fail
theorem Ald : Ae Tryz.prog 141 A01 (A9 Ir Hq Om) := by
 refine E0 (X := ctx Tryz.prog A22 []) (Ad Ab A4o A2) 7 141 (fun _ => none) (fun _ _ f h => by simp at h) Ir Hq (fun e => by cases e <;> exact Nat.le_refl _) Om (fun g => Ai7 g.1.2.1.2 g.1.1 g.1.2.2.1 g.1.2.2.2.1) (fun g => by kernel_rfl) ?_
 rintro ⟨⟨l, ⟨⟨⟩, k⟩, n, i, ⟨⟩⟩, ⟨⟩⟩ R hw hf
 obtain ⟨hf, h0⟩ := hf
 by_cases hc : n = (l.length : Int) ∧ i = 0
 ·obtain ⟨rfl, rfl⟩ := hc
  have hf := hf (decide_eq_true ⟨rfl, rfl⟩)
  refine B1j l (Aq (A4)) (Es hw.1.1) (fun n i _ => A02 k l n i) (fun x i (_ : Unit) => bif Dl k x then .inr (Pr i) else .inl ()) (fun _ => Ps) (fun _ => True) (fun x i _ => J6 k l l.length x i) (fun i _ => rfl) ?_ () trivial ?_
  ·intro i _ hi Q _ _ hw1 hQ
   show (J6 k l l.length l[i] i).sat Q
   unfold J6
   rw [hw1]
   cases hp : Dl k l[i] with
   | true => rw [hp] at hQ; exact hQ
   | false => rw [hp] at hQ; exact hQ trivial
  ·rw [Rb (Dl k) (fun i => Pr i) Ps l 0, Nat.zero_add]
   cases ha : l.any (Dl k) with
   | true => exact hf.1 ha
   | false => exact hf.2 ha
 ·exact (h0 (decide_eq_false hc)).elim
abbrev Ale : PureT := Lo [.d (.sl (A4)), .f 77 [] Hj] [cI] (fun _ => true) (fun x => (bif x.1.any (Dl x.2.1.2) then (x.1.findIdx (Dl x.2.1.2) : Int) else -1, ()))
noncomputable def Alf : Ctx := Gu Tryz.prog A22 [(141, Tryz.f141)] [((141, keyOf A01), A9 Ir Hq Om)]
theorem A4z : CtxOk Alf := Bx Ab A4o (fns_cons is_ar A2) (Bg rfl (by kernel_rfl) Ald)
def A50 (k : SKTs Hj) (l : List (TCT (A4))) : Tree (Int × Unit) := bif N3 (l.length : Int) 0 l then bif l.any (Dl k) then .leaf ((l.findIdx (Dl k) : Int), ()) else .leaf (-1, ()) else .fail
theorem A51 (k : SKTs Hj) (l : List (TCT (A4))) : (A50 k l).sat (fun y => y = (bif l.any (Dl k) then (l.findIdx (Dl k) : Int) else -1, ())) := by
 refine R6 (decide_eq_true ⟨rfl, rfl⟩) ?_
 cases l.any (Dl k) <;> exact rfl
theorem Alg : A7 Tryz.prog 141 Ale := Ts A4z 8 (fun x => A50 x.2.1.2 x.1) (fun x => by kernel_rfl) fun x _ _ => A51 _ _
abbrev A52 : PureT := Lo [.d (.sl (A4)), .f 77 [] Hj] [.b] (fun _ => true) (fun x => (x.1.any (Dl x.2.1.2), ()))
theorem A53 (k : SKTs Hj) (l : List (TCT (A4))) : (Tree.leaf (decide ((bif l.any (Dl k) then (l.findIdx (Dl k) : Int) else -1) ≥ 0), ()) : Tree (Bool × Unit)).sat (fun y => y = (l.any (Dl k), ())) := by
 rw [Ux]; exact rfl
theorem Alh : A7 Tryz.prog 76 A52 := Ts (Ad Ab (A0 is_ar.plain Alg Aa) (fns_cons is_as A2)) 8 (fun x => .leaf (decide ((bif x.1.any (Dl x.2.1.2) then (x.1.findIdx (Dl x.2.1.2) : Int) else -1) ≥ 0), ())) (fun x => by kernel_rfl) fun x _ _ => A53 _ _
theorem is_at : FnIs Tryz.prog (149, Tryz.f149) := ⟨Tryz.func149, by kernel_rfl, by kernel_rfl⟩
theorem is_au : FnIs Tryz.prog (103, Tryz.f103) := ⟨Tryz.func103, by kernel_rfl, by kernel_rfl⟩
abbrev Js : List SK := []
def F5 (k : SKTs Js) (x : TCT (Aj)) : Bool := !O6 x
noncomputable def A54 : Code := (A8 (bodyOf Tryz.f149)).getD 0 .skip
def Kn : Lay := { keys := [0, 1, 7, 8], ks := [.d (.sl (Aj)), .f 104 [] Js, .d cI, .d cI], bs := [], n := 19, nx := 1000, marks := [] }
def Ali : Lay := { keys := [4], ks := [.d cI], bs := [], n := 19, nx := 1000, marks := [] }
def Alj : Lay := { keys := [], ks := [], bs := [], n := 19, nx := 1000, marks := [] }
def J7 : XE → Lay
 | .ret => Ali
 | _ => Alj
def A55 (k : SKTs Js) (l : List (TCT (Aj))) (n i : Int) : Kn.T := ((l, ((), k), n, i, ()), ())
def U1 (i : Int) : A1 J7 := ⟨.ret, ((i, ()), ())⟩
def U2 : A1 J7 := ⟨.exit 0, ((), ())⟩
def Ko (k : SKTs Js) (l : List (TCT (Aj))) (n : Int) (x : TCT (Aj)) (i : Int) : Tree (Kn.T ⊕ A1 J7) := bif F5 k x then .leaf (.inr (U1 i)) else .leaf (.inl (A55 k l n (W64 (i + 1))))
def Alk (k : SKTs Js) (l : List (TCT (Aj))) (n i : Int) : Tree (Kn.T ⊕ A1 J7) :=
 bif decide (i < n) then bif decide (0 ≤ i ∧ i < (l.length : Int)) then Ko k l n (At l i.toNat (Aq (Aj))) i else .fail else .leaf (.inr U2)
def Re (g : Kn.T) : Tree (A1 J7) :=
 .br (N3 g.1.2.2.1 g.1.2.2.2.1 g.1.1) (.br (g.1.1.any (F5 g.1.2.1.2)) (.leaf (U1 (g.1.1.findIdx (F5 g.1.2.1.2)))) (.leaf U2)) .fail
theorem Av8 : Ae Tryz.prog 149 A54 (A9 Kn J7 Re) := by
 refine E0 (X := ctx Tryz.prog A22 []) (Ad Ab A4o A2) 7 149 (fun _ => none) (fun _ _ f h => by simp at h) Kn J7 (fun e => by cases e <;> exact Nat.le_refl _) Re (fun g => Alk g.1.2.1.2 g.1.1 g.1.2.2.1 g.1.2.2.2.1) (fun g => by kernel_rfl) ?_
 rintro ⟨⟨l, ⟨⟨⟩, k⟩, n, i, ⟨⟩⟩, ⟨⟩⟩ R hw hf
 obtain ⟨hf, h0⟩ := hf
 by_cases hc : n = (l.length : Int) ∧ i = 0
 ·obtain ⟨rfl, rfl⟩ := hc
  have hf := hf (decide_eq_true ⟨rfl, rfl⟩)
  refine B1j l (Aq (Aj)) (Es hw.1.1) (fun n i _ => A55 k l n i) (fun x i (_ : Unit) => bif F5 k x then .inr (U1 i) else .inl ()) (fun _ => U2) (fun _ => True) (fun x i _ => Ko k l l.length x i) (fun i _ => rfl) ?_ () trivial ?_
  ·intro i _ hi Q _ _ hw1 hQ
   show (Ko k l l.length l[i] i).sat Q
   unfold Ko
   rw [hw1]
   cases hp : F5 k l[i] with
   | true => rw [hp] at hQ; exact hQ
   | false => rw [hp] at hQ; exact hQ trivial
  ·rw [Rb (F5 k) (fun i => U1 i) U2 l 0, Nat.zero_add]
   cases ha : l.any (F5 k) with
   | true => exact hf.1 ha
   | false => exact hf.2 ha
 ·exact (h0 (decide_eq_false hc)).elim
abbrev Av9 : PureT := Lo [.d (.sl (Aj)), .f 104 [] Js] [cI] (fun _ => true) (fun x => (bif x.1.any (F5 x.2.1.2) then (x.1.findIdx (F5 x.2.1.2) : Int) else -1, ()))
noncomputable def Ava : Ctx := Gu Tryz.prog A22 [(149, Tryz.f149)] [((149, keyOf A54), A9 Kn J7 Re)]
theorem A9r : CtxOk Ava := Bx Ab A4o (fns_cons is_at A2) (Bg rfl (by kernel_rfl) Av8)
def Adp (k : SKTs Js) (l : List (TCT (Aj))) : Tree (Int × Unit) := bif N3 (l.length : Int) 0 l then bif l.any (F5 k) then .leaf ((l.findIdx (F5 k) : Int), ()) else .leaf (-1, ()) else .fail
theorem A9s (k : SKTs Js) (l : List (TCT (Aj))) : (Adp k l).sat (fun y => y = (bif l.any (F5 k) then (l.findIdx (F5 k) : Int) else -1, ())) := by
 refine R6 (decide_eq_true ⟨rfl, rfl⟩) ?_
 cases l.any (F5 k) <;> exact rfl
theorem Avb : A7 Tryz.prog 149 Av9 := Ts A9r 8 (fun x => Adp x.2.1.2 x.1) (fun x => by kernel_rfl) fun x _ _ => A9s _ _
abbrev Adq : PureT := Lo [.d (.sl (Aj)), .f 104 [] Js] [.b] (fun _ => true) (fun x => (x.1.any (F5 x.2.1.2), ()))
theorem A9t (k : SKTs Js) (l : List (TCT (Aj))) : (Tree.leaf (decide ((bif l.any (F5 k) then (l.findIdx (F5 k) : Int) else -1) ≥ 0), ()) : Tree (Bool × Unit)).sat (fun y => y = (l.any (F5 k), ())) := by
 rw [Ux]; exact rfl
theorem Avc : A7 Tryz.prog 103 Adq := Ts (Ad Ab (A0 is_at.plain Avb Aa) (fns_cons is_au A2)) 8 (fun x => .leaf (decide ((bif x.1.any (F5 x.2.1.2) then (x.1.findIdx (F5 x.2.1.2) : Int) else -1) ≥ 0), ())) (fun x => by kernel_rfl) fun x _ _ => A9t _ _
theorem is_av : FnIs Tryz.prog (140, Tryz.f140) := ⟨Tryz.func140, by kernel_rfl, by kernel_rfl⟩
theorem is_aw : FnIs Tryz.prog (175, Tryz.f175) := ⟨Tryz.func175, by kernel_rfl, by kernel_rfl⟩
theorem is_ax : FnIs Tryz.prog (195, Tryz.f195) := ⟨Tryz.func195, by kernel_rfl, by kernel_rfl⟩
theorem is_ay : FnIs Tryz.prog (92, Tryz.f92) := ⟨Tryz.func92, by kernel_rfl, by kernel_rfl⟩
abbrev kLw : List SK := [.d .s, .d cI, .d cI, .d cI, .d (.sl Bh), .d cI, .d cI, .d cI, .d cI, .d cI, .d (.sl C7)]
def Lr (x : SKTs kLw) : TCT An := (x.1, x.2.1, x.2.2.1, x.2.2.2.1, x.2.2.2.2.1, ((x.2.2.2.2.2.1, x.2.2.2.2.2.2.1, ()), x.2.2.2.2.2.2.2.1, ()), x.2.2.2.2.2.2.2.2.1, x.2.2.2.2.2.2.2.2.2.1, x.2.2.2.2.2.2.2.2.2.2.1, ())
def Dx (l : TCT An) : SKTs kLw := (l.1, l.2.1, l.2.2.1, l.2.2.2.1, l.2.2.2.2.1, l.2.2.2.2.2.1.1.1, l.2.2.2.2.2.1.1.2.1, l.2.2.2.2.2.1.2.1, l.2.2.2.2.2.2.1, l.2.2.2.2.2.2.2.1, l.2.2.2.2.2.2.2.2.1, ())
def Ao (l : TCT An) : List (TCT Bh) := l.2.2.2.2.1
def K3 (l : TCT An) : TCT Al := l.2.2.2.2.2.1
def dW (h : TCT Bh) : Int := W64 (W64 (Int.tdiv h.2.2.1 2) + h.2.2.2.1)
def Nz (x y r : Int) : TCT Al := ((x, y, ()), r, ())
def w2 (h : TCT Bh) : List (TCT Al) := bif h.2.2.2.2.1 then [Nz h.1 (W64 (h.2.1 - dW h)) h.2.2.2.1, Nz h.1 (W64 (h.2.1 + dW h)) h.2.2.2.1] else [Nz (W64 (h.1 - dW h)) h.2.1 h.2.2.2.1, Nz (W64 (h.1 + dW h)) h.2.1 h.2.2.2.1]
def D1 (l : TCT An) : List (TCT Al) := (Ao l).flatMap w2 ++ [K3 l]
noncomputable def Ba5 : Code := (A8 (bodyOf Tryz.f140)).getD 0 .skip
def Yx : Lay := { keys := [1, 2, 7, 8, 9], ks := [.p 0 0 0 0, .o 26 Al, .d (.sl Bh), .d cI, .d cI], bs := [(0, 29, kLw)], n := 24, nx := 1000, marks := [] }
def Ba6 : Lay := { keys := [1, 2], ks := [.p 0 0 0 0, .o 26 Al], bs := [(0, 29, kLw)], n := 24, nx := 1000, marks := [] }
def A23 : XE → Lay := fun _ => Ba6
def All (x : SKTs kLw) (hs : List (TCT Bh)) (n : Int) (i : Int) (o : List (TCT Al)) : Yx.T := (((), o, hs, n, i, ()), (x, ()))
def A03 (x : SKTs kLw) (o : List (TCT Al)) : A1 A23 := ⟨.exit 0, (((), o, ()), (x, ()))⟩
def A9u (x : SKTs kLw) (hs : List (TCT Bh)) (n i : Int) (o w : List (TCT Al)) : Tree (Yx.T ⊕ A1 A23) := bif Ex o w 24 then .leaf (.inl (All x hs n (W64 (i + 1)) (o ++ w))) else .fail
def A24 (x : SKTs kLw) (hs : List (TCT Bh)) (n i : Int) (o : List (TCT Al)) (h : TCT Bh) : Tree (Yx.T ⊕ A1 A23) :=
 bif h.2.2.2.2.1 then A9u x hs n i o [Nz (W64 (h.1 - 0)) (W64 (h.2.1 - dW h)) h.2.2.2.1, Nz (W64 (h.1 + 0)) (W64 (h.2.1 + dW h)) h.2.2.2.1]
 else A9u x hs n i o [Nz (W64 (h.1 - dW h)) (W64 (h.2.1 - 0)) h.2.2.2.1, Nz (W64 (h.1 + dW h)) (W64 (h.2.1 + 0)) h.2.2.2.1]
def A56 (g : Yx.T) : Tree (Yx.T ⊕ A1 A23) :=
 bif decide (g.1.2.2.2.2.1 < g.1.2.2.2.1) then bif decide (0 ≤ g.1.2.2.2.2.1 ∧ g.1.2.2.2.2.1 < ((g.1.2.2.1 : List (TCT Bh)).length : Int)) then A24 g.2.1 g.1.2.2.1 g.1.2.2.2.1 g.1.2.2.2.2.1 g.1.2.1 (At g.1.2.2.1 (Int.toNat g.1.2.2.2.2.1) (Aq Bh)) else .fail else .leaf (.inr (A03 g.2.1 g.1.2.1))
def Alm (g : Yx.T) : Nat := (g.1.2.2.1 : List (TCT Bh)).length + 1
noncomputable def Ba7 : Ctx := ctx Tryz.prog [] [(175, Tryz.f175), (195, Tryz.f195)]
theorem Aln : CtxOk Ba7 := Ad Ab Aa (fns_cons is_aw (fns_cons is_ax A2))
theorem Bfk : Ae Tryz.prog 140 Ba5 (A9 Yx A23 (Bu [.exit 0] A56 Alm)) := Aw Aln 7 _ Yx A23 (fun _ => Nat.le_refl _) [.exit 0] A56 Alm (fun g => by kernel_rfl)
noncomputable def Bfl : Ctx := Gu Tryz.prog [] [(140, Tryz.f140)] [((140, 2), A9 Yx A23 (Bu [.exit 0] A56 Alm))]
theorem Avd : CtxOk Bfl := Bx Ab Aa (fns_cons is_av A2) (Bg (by kernel_rfl) (by kernel_rfl) Bfk)
def Ave (l : TCT An) : Option (A1 A23) := iter A56 ((Ao l).length + 1) (All (Dx l) (Ao l) (Ao l).length 0 [])
abbrev TPo := Tree (TCTs [.sl Al])
def A9v (r : Ba6.T) : TPo := bif Ex r.1.2.1 [K3 (Lr r.2.1)] 24 then .leaf (r.1.2.1 ++ [K3 (Lr r.2.1)], ()) else .fail
def B44 (l : TCT An) : TPo := bif isE (.exit 0) (Ave l) then A9v (B7 (.exit 0) (Ave l)) else .fail
abbrev N7 : PureT := B9 [An] [.sl Al] (fun x => decide ((Ao x.1).length ≤ 1000)) (fun x => (D1 x.1, ()))
theorem Rf {α β E : Type} (w : α → List β) (ex : List β → E) : ∀ (l : List α) (i : Nat) (s : List β), Zv (fun _ x s => some (.inl (s ++ w x))) (fun s => some (ex s)) i l s = some (ex (s ++ l.flatMap w))
 | [], _, s => by simp [Zv]
 | x :: l, i, s => by simp only [Zv]; rw [Rf w ex l (i + 1)]; simp [List.append_assoc]
theorem A9w (h : TCT Bh) : (w2 h).length = 2 := by unfold w2; cases h.2.2.2.2.1 <;> rfl
theorem V2 (l : List (TCT Bh)) : (l.flatMap w2).length = 2 * l.length := by
 induction l with
 | nil => rfl
 | cons h l ih =>
  have e : ((h :: l).flatMap w2).length = (w2 h).length + (l.flatMap w2).length := by rw [List.flatMap_cons, List.length_append]
  rw [e, ih, A9w, List.length_cons]; omega
theorem A04 {o w : List (TCT Al)} (h : o.length + w.length ≤ 4000) : Ex o w 24 = true := by
 rw [Ke]; exact decide_eq_true (by omega)
theorem B45 {h : TCT Bh} (hw : WFD Bh h) : W64 (h.1 - 0) = h.1 ∧ W64 (h.1 + 0) = h.1 ∧ W64 (h.2.1 - 0) = h.2.1 ∧ W64 (h.2.1 + 0) = h.2.1 := by
 obtain ⟨x, y, g, w, a, ⟨⟩⟩ := h
 obtain ⟨h1, h2, _⟩ := hw
 have h1 : -9223372036854775808 ≤ x ∧ x ≤ 9223372036854775807 := h1
 have h2 : -9223372036854775808 ≤ y ∧ y ≤ 9223372036854775807 := h2
 exact ⟨by rw [Int.sub_zero]; exact Bv h1.1 h1.2, by rw [Int.add_zero]; exact Bv h1.1 h1.2, by rw [Int.sub_zero]; exact Bv h2.1 h2.2, by rw [Int.add_zero]; exact Bv h2.1 h2.2⟩
theorem Avf {l : TCT An} (hw : ∀ h ∈ Ao l, WFD Bh h) (hl : (Ao l).length ≤ 1000) : Ave l = some (A03 (Dx l) ((Ao l).flatMap w2)) := by
 unfold Ave
 have key := Gd (st := A56) (Ao l) (fun i o => All (Dx l) (Ao l) (Ao l).length (i : Int) o) (fun _ h o => some (.inl (o ++ w2 h))) (fun o => some (A03 (Dx l) o)) (fun i o => o.length = 2 * i)
  (fun i o hi hI => by
   simp only
   refine ⟨?_, by rw [List.length_append, hI, A9w]; omega⟩
   show (bif decide ((i : Int) < ((Ao l).length : Int)) then bif decide (0 ≤ (i : Int) ∧ (i : Int) < ((Ao l).length : Int)) then A24 (Dx l) (Ao l) (Ao l).length (i : Int) o (At (Ao l) (Int.toNat (i : Int)) (Aq Bh)) else .fail else .leaf (.inr (A03 (Dx l) o))).run = _
   rw [decide_eq_true (show (i : Int) < ((Ao l).length : Int) by omega), decide_eq_true (show 0 ≤ (i : Int) ∧ (i : Int) < ((Ao l).length : Int) by omega), show Int.toNat (i : Int) = i by omega, E7 hi]
   obtain ⟨e1, e2, e3, e4⟩ := B45 (hw _ (List.getElem_mem hi))
   simp only [cond_true]
   unfold A24 w2 A9u
   rw [e1, e2, e3, e4, Bv (n := (i : Int) + 1) (by omega) (by omega)]
   cases (Ao l)[i].2.2.2.2.1 with
   | true =>
    simp only [cond_true]
    rw [A04 (by simp only [List.length_cons, List.length_nil, hI]; omega)]
    rfl
   | false =>
    simp only [cond_false]
    rw [A04 (by simp only [List.length_cons, List.length_nil, hI]; omega)]
    rfl)
  (fun o e hI he => by
   cases he
   show (bif decide (((Ao l).length : Int) < ((Ao l).length : Int)) then _ else Tree.leaf (Sum.inr (A03 (Dx l) o)) : Tree (Yx.T ⊕ A1 A23)).run = _
   rw [decide_eq_false (show ¬ ((Ao l).length : Int) < ((Ao l).length : Int) by omega)]
   rfl)
  (Ao l).length 0 [] (A03 (Dx l) ((Ao l).flatMap w2)) ((Ao l).length + 1) (by omega) (by omega) rfl (by rw [List.drop_zero, Rf, List.nil_append])
 exact key
theorem Adr : A7 Tryz.prog 140 N7 := B6 Avd 7 (fun x => B44 x.1) (fun x => by kernel_rfl) fun x hok hw => by
 have hl : (Ao x.1).length ≤ 1000 := of_decide_eq_true hok
 show (B44 x.1).sat _
 unfold B44
 rw [Avf (B1k hw.1.2.2.2.2.1) hl]
 show (A9v (((), (Ao x.1).flatMap w2, ()), (Dx x.1, ()))).sat _
 unfold A9v
 simp only
 rw [A04 (by rw [V2]; simp only [List.length_cons, List.length_nil]; omega)]
 exact rfl
noncomputable def Ba8 : Code := (A8 (bodyOf Tryz.f92)).getD 0 .skip
def Yy : Lay := { keys := [1, 3, 4], ks := [.p 0 0 0 0, .o 26 Al, .d cI], bs := [(0, 29, kLw)], n := 73, nx := 1000, marks := [] }
def Ba9 : Lay := { keys := [1, 3], ks := [.p 0 0 0 0, .o 26 Al], bs := [(0, 29, kLw)], n := 73, nx := 1000, marks := [] }
def A25 : XE → Lay := fun _ => Ba9
def Alo (x : SKTs kLw) (i : Int) (o : List (TCT Al)) : Yy.T := (((), o, i, ()), (x, ()))
def A05 (x : SKTs kLw) (o : List (TCT Al)) : A1 A25 := ⟨.exit 0, (((), o, ()), (x, ()))⟩
def A9x (x : SKTs kLw) (i : Int) (o w : List (TCT Al)) : Tree (Yy.T ⊕ A1 A25) := bif Ex o w 24 then .leaf (.inl (Alo x (W64 (i + 1)) (o ++ w))) else .fail
def A26 (x : SKTs kLw) (i : Int) (o : List (TCT Al)) (h : TCT Bh) : Tree (Yy.T ⊕ A1 A25) :=
 bif h.2.2.2.2.1 then A9x x i o [Nz h.1 (W64 (h.2.1 - dW h)) h.2.2.2.1, Nz h.1 (W64 (h.2.1 + dW h)) h.2.2.2.1]
 else A9x x i o [Nz (W64 (h.1 - dW h)) h.2.1 h.2.2.2.1, Nz (W64 (h.1 + dW h)) h.2.1 h.2.2.2.1]
def A57 (g : Yy.T) : Tree (Yy.T ⊕ A1 A25) :=
 bif decide (g.1.2.2.1 < ((g.2.1.2.2.2.2.1 : List (TCT Bh)).length : Int)) then bif decide (0 ≤ g.1.2.2.1 ∧ g.1.2.2.1 < ((g.2.1.2.2.2.2.1 : List (TCT Bh)).length : Int)) then A26 g.2.1 g.1.2.2.1 g.1.2.1 (At g.2.1.2.2.2.2.1 (Int.toNat g.1.2.2.1) (Aq Bh)) else .fail else .leaf (.inr (A05 g.2.1 g.1.2.1))
def Alp (g : Yy.T) : Nat := (g.2.1.2.2.2.2.1 : List (TCT Bh)).length + 1
noncomputable def Baa : Ctx := ctx Tryz.prog [] []
theorem Alq : CtxOk Baa := Ad Ab Aa A2
theorem Bfm : Ae Tryz.prog 92 Ba8 (A9 Yy A25 (Bu [.exit 0] A57 Alp)) := Aw Alq 7 _ Yy A25 (fun _ => Nat.le_refl _) [.exit 0] A57 Alp (fun g => by kernel_rfl)
noncomputable def Bfn : Ctx := Gu Tryz.prog [] [(92, Tryz.f92)] [((92, 3), A9 Yy A25 (Bu [.exit 0] A57 Alp))]
theorem Avg : CtxOk Bfn := Bx Ab Aa (fns_cons is_ay A2) (Bg (by kernel_rfl) (by kernel_rfl) Bfm)
def Avh (l : TCT An) : Option (A1 A25) := iter A57 ((Ao l).length + 1) (Alo (Dx l) 0 [])
def A9y (r : Ba9.T) : TPo := bif Ex r.1.2.1 [K3 (Lr r.2.1)] 24 then .leaf (r.1.2.1 ++ [K3 (Lr r.2.1)], ()) else .fail
def B46 (l : TCT An) : TPo := bif isE (.exit 0) (Avh l) then A9y (B7 (.exit 0) (Avh l)) else .fail
theorem Avi {l : TCT An} (hl : (Ao l).length ≤ 1000) : Avh l = some (A05 (Dx l) ((Ao l).flatMap w2)) := by
 unfold Avh
 have key := Gd (st := A57) (Ao l) (fun i o => Alo (Dx l) (i : Int) o) (fun _ h o => some (.inl (o ++ w2 h))) (fun o => some (A05 (Dx l) o)) (fun i o => o.length = 2 * i)
  (fun i o hi hI => by
   simp only
   refine ⟨?_, by rw [List.length_append, hI, A9w]; omega⟩
   show (bif decide ((i : Int) < ((Ao l).length : Int)) then bif decide (0 ≤ (i : Int) ∧ (i : Int) < ((Ao l).length : Int)) then A26 (Dx l) (i : Int) o (At (Ao l) (Int.toNat (i : Int)) (Aq Bh)) else .fail else .leaf (.inr (A05 (Dx l) o))).run = _
   rw [decide_eq_true (show (i : Int) < ((Ao l).length : Int) by omega), decide_eq_true (show 0 ≤ (i : Int) ∧ (i : Int) < ((Ao l).length : Int) by omega), show Int.toNat (i : Int) = i by omega, E7 hi]
   simp only [cond_true]
   unfold A26 w2 A9x
   rw [Bv (n := (i : Int) + 1) (by omega) (by omega)]
   cases (Ao l)[i].2.2.2.2.1 with
   | true =>
    simp only [cond_true]
    rw [A04 (by simp only [List.length_cons, List.length_nil, hI]; omega)]
    rfl
   | false =>
    simp only [cond_false]
    rw [A04 (by simp only [List.length_cons, List.length_nil, hI]; omega)]
    rfl)
  (fun o e hI he => by
   cases he
   show (bif decide (((Ao l).length : Int) < ((Ao l).length : Int)) then _ else Tree.leaf (Sum.inr (A05 (Dx l) o)) : Tree (Yy.T ⊕ A1 A25)).run = _
   rw [decide_eq_false (show ¬ ((Ao l).length : Int) < ((Ao l).length : Int) by omega)]
   rfl)
  (Ao l).length 0 [] (A05 (Dx l) ((Ao l).flatMap w2)) ((Ao l).length + 1) (by omega) (by omega) rfl (by rw [List.drop_zero, Rf, List.nil_append])
 exact key
theorem A58 : A7 Tryz.prog 92 N7 := B6 Avg 7 (fun x => B46 x.1) (fun x => by kernel_rfl) fun x hok hw => by
 have hl : (Ao x.1).length ≤ 1000 := of_decide_eq_true hok
 show (B46 x.1).sat _
 unfold B46
 rw [Avi hl]
 show (A9y (((), (Ao x.1).flatMap w2, ()), (Dx x.1, ()))).sat _
 unfold A9y
 simp only
 rw [A04 (by rw [V2]; simp only [List.length_cons, List.length_nil]; omega)]
 exact rfl
theorem is_az : FnIs Tryz.prog (131, Tryz.f131) := ⟨Tryz.func131, by kernel_rfl, by kernel_rfl⟩
theorem is_aA : FnIs Tryz.prog (171, Tryz.f171) := ⟨Tryz.func171, by kernel_rfl, by kernel_rfl⟩
theorem is_aB : FnIs Tryz.prog (170, Tryz.f170) := ⟨Tryz.func170, by kernel_rfl, by kernel_rfl⟩
theorem is_aC : FnIs Tryz.prog (193, Tryz.f193) := ⟨Tryz.func193, by kernel_rfl, by kernel_rfl⟩
theorem is_aD : FnIs Tryz.prog (203, Tryz.f203) := ⟨Tryz.func203, by kernel_rfl, by kernel_rfl⟩
def A59 (r : Int) : Bool := (decide (r < 97) || decide (r > 122)) && (decide (r < 48) || decide (r > 57))
def Alr (r : Int) : TBo := bif decide (r < 97) then bif decide (r < 48) then .leaf (true, ()) else .leaf (decide (r > 57), ()) else bif decide (r > 122) then bif decide (r < 48) then .leaf (true, ()) else .leaf (decide (r > 57), ()) else .leaf (false, ())
abbrev Als : PureT := B9 [.i .i32] [.b] (fun _ => true) (fun x => (A59 x.1, ()))
theorem Alt (r : Int) : (Alr r).sat (fun y => y = (A59 r, ())) := by
 unfold Alr A59
 cases decide (r < 97) <;> cases decide (r > 122) <;> cases decide (r < 48) <;> exact rfl
theorem Alu : A7 Tryz.prog 171 Als := B6 (Ad Ab Aa (fns_cons is_aA A2)) 3 (fun x => Alr x.1) (fun x => by kernel_rfl) fun x _ _ => Alt x.1
def Bab : List (Nat × PureT) := [(171, Als)]
theorem Bfo : By Tryz.prog Bab := A0 is_aA.plain Alu Aa
def nmT (t : ByteArray) : Nat → Nat → TBo
 | 0, _ => .fail
 | n + 1, pos => bif Nat.ble (pos + 1) t.size then
   bif Ge .i64 (pos : Int) && Ge .i32 ((Utf8.decode t pos).1 : Int) then
    bif A59 ((Utf8.decode t pos).1 : Int) == true then .leaf (!decide ((pos : Int) ≥ 0), ()) else nmT t n (pos + (Utf8.decode t pos).2)
   else .fail
  else .leaf (!decide ((-1 : Int) ≥ 0), ())
def A27 (t : ByteArray) : TBo := bif Ge .i64 (t.size : Int) then bif decide ((t.size : Int) ≥ 1) then bif Ge .i64 (t.size : Int) then bif decide ((t.size : Int) ≤ 20) then nmT t 21 0 else .leaf (false, ()) else .fail else .leaf (false, ()) else .fail
noncomputable def Bac : Ctx := Al1 21 Tryz.prog Bab [(131, Tryz.f131), (170, Tryz.f170), (193, Tryz.f193), (203, Tryz.f203)]
theorem Avj : CtxOk Bac := Uy Ab Bfo (fns_cons is_az (fns_cons is_aB (fns_cons is_aC (fns_cons is_aD A2))))
theorem Ai8 (t : ByteArray) : C4 Bac 12 (.fn 131) [.val (.string t)] Be 0 (Ft Tryz.prog [.b]) = A27 t := by kernel_rfl
def D4 (t : ByteArray) : List UInt8 := t.data.toList
def Rh (b : UInt8) : Bool := A59 ((b.toNat : Nat) : Int)
def Iu (t : ByteArray) : Bool := decide (1 ≤ t.size ∧ t.size ≤ 20) && !(D4 t).any Rh
theorem N8 (t : ByteArray) : (D4 t).length = t.size := Array.length_toList
theorem Ai9 {n : Int} (h : 0 ≤ n) (h2 : n ≤ 9223372036854775807) : Ge .i64 n = true := by
 unfold Ge
 rw [decide_eq_true (show Hs .i64 ≤ n by simp only [Hs]; omega), decide_eq_true (show n ≤ As .i64 by simp only [As]; omega)]; rfl
theorem Bad {n : Int} (h : 0 ≤ n) (h2 : n ≤ 2147483647) : Ge .i32 n = true := by
 unfold Ge
 rw [decide_eq_true (show Hs .i32 ≤ n by simp only [Hs]; omega), decide_eq_true (show n ≤ As .i32 by simp only [As]; omega)]; rfl
theorem B47 {t : ByteArray} {i : Nat} (h : i < t.size) : t.get! i = (D4 t)[i]'(by rw [N8]; exact h) := by
 have h' : i < t.data.size := h
 show t.data[i]! = _
 rw [getElem!_pos t.data i h']
 simp [D4]
theorem B48 {t : ByteArray} {i : Nat} (h : (t.get! i).toNat < 128) : Utf8.decode t i = ((t.get! i).toNat, 1) := by
 unfold Utf8.decode
 simp only [Nat.add_zero]
 rw [if_pos h]
theorem B49 {t : ByteArray} {i : Nat} (h : ¬ (t.get! i).toNat < 128) : 128 ≤ (Utf8.decode t i).1 ∧ (Utf8.decode t i).1 ≤ 2100000 := by
 have hb : (t.get! i).toNat < 256 := (t.get! i).toNat_lt
 unfold Utf8.decode
 simp only [Nat.add_zero]
 rw [if_neg h]
 have m1 := Nat.mod_lt (t.get! (i + 1)).toNat (show 0 < 64 by omega)
 have m2 := Nat.mod_lt (t.get! (i + 2)).toNat (show 0 < 64 by omega)
 have m3 := Nat.mod_lt (t.get! (i + 3)).toNat (show 0 < 64 by omega)
 have r : 128 ≤ Utf8.runeError ∧ Utf8.runeError ≤ 2100000 := by decide
 split
 ·split
  ·rename_i hc
   simp only
   omega
  ·exact r
 ·split
  ·split
   ·rename_i hc
    simp only [ge_iff_le, Bool.and_eq_true, decide_eq_true_eq] at hc
    simp only
    omega
   ·exact r
  ·split
   ·split
    ·rename_i hc
     simp only [ge_iff_le, Bool.and_eq_true, decide_eq_true_eq] at hc
     simp only
     omega
    ·exact r
   ·exact r
theorem Alv {r : Nat} (h : 128 ≤ r) : A59 (r : Int) = true := by
 unfold A59
 rw [decide_eq_true (show (r : Int) > 122 by omega), decide_eq_true (show (r : Int) > 57 by omega)]
 simp
theorem Alw {t : ByteArray} (hs : t.size ≤ 20) : ∀ (n pos : Nat), pos ≤ t.size → t.size - pos < n → nmT t n pos = .leaf (!((D4 t).drop pos).any Rh, ())
 | 0, _, _, h => absurd h (Nat.not_lt_zero _)
 | n + 1, pos, hp, hn => by
  unfold nmT
  by_cases hlt : pos < t.size
  ·have hb : Nat.ble (pos + 1) t.size = true := by rw [Nat.ble_eq]; omega
   have hd : (D4 t).drop pos = (D4 t)[pos]'(by rw [N8]; exact hlt) :: (D4 t).drop (pos + 1) := List.drop_eq_getElem_cons _
   rw [hb, cond_true, hd, List.any_cons, ← B47 hlt]
   by_cases h8 : (t.get! pos).toNat < 128
   ·rw [B48 h8]
    simp only
    have hk : (Ge .i64 (pos : Int) && Ge .i32 (((t.get! pos).toNat : Nat) : Int)) = true := by
     rw [Ai9 (by omega) (by omega), Bad (by omega) (by omega)]; rfl
    rw [hk, cond_true]
    show (bif Rh (t.get! pos) == true then _ else _ : TBo) = _
    cases hbd : Rh (t.get! pos) with
    | true =>
     rw [decide_eq_true (show (pos : Int) ≥ 0 by omega)]
     rfl
    | false =>
     show nmT t n (pos + 1) = _
     rw [Alw hs n (pos + 1) (by omega) (by omega), Bool.false_or]
   ·obtain ⟨h1, h2⟩ := B49 h8
    have hk : (Ge .i64 (pos : Int) && Ge .i32 (((Utf8.decode t pos).1 : Nat) : Int)) = true := by
     rw [Ai9 (by omega) (by omega), Bad (by omega) (by omega)]; rfl
    have hbu : Rh (t.get! pos) = true := Alv (by omega)
    rw [hk, cond_true, Alv h1, hbu, decide_eq_true (show (pos : Int) ≥ 0 by omega)]
    rfl
  ·have hb : Nat.ble (pos + 1) t.size = false := by
    cases h : Nat.ble (pos + 1) t.size with
    | false => rfl
    | true => rw [Nat.ble_eq] at h; omega
   rw [hb, cond_false, List.drop_eq_nil_of_le (by rw [N8]; omega)]
   rfl
theorem Aia {t : ByteArray} (h64 : (t.size : Int) ≤ As .i64) : (A27 t).sat (fun y => y = (Iu t, ())) := by
 unfold A27 Iu
 have hk : Ge .i64 (t.size : Int) = true := Ai9 (by omega) (by simp only [As] at h64; exact h64)
 rw [hk]
 simp only [cond_true]
 by_cases h1 : 1 ≤ t.size
 ·rw [decide_eq_true (show (t.size : Int) ≥ 1 by omega)]
  by_cases h2 : t.size ≤ 20
  ·rw [decide_eq_true (show (t.size : Int) ≤ 20 by omega), decide_eq_true (show 1 ≤ t.size ∧ t.size ≤ 20 from ⟨h1, h2⟩), cond_true, cond_true, Alw h2 21 0 (by omega) (by omega)]
   exact rfl
  ·rw [decide_eq_false (show ¬ (t.size : Int) ≤ 20 by omega), decide_eq_false (show ¬ (1 ≤ t.size ∧ t.size ≤ 20) from fun h => h2 h.2)]
   exact rfl
 ·rw [decide_eq_false (show ¬ (t.size : Int) ≥ 1 by omega), decide_eq_false (show ¬ (1 ≤ t.size ∧ t.size ≤ 20) from fun h => h1 h.1)]
  exact rfl
theorem is_aE : FnIs Tryz.prog (88, Tryz.f88) := ⟨Tryz.func88, by kernel_rfl, by kernel_rfl⟩
abbrev A28 : PureT := B9 [.s] [.b] (fun x => decide ((x.1.size : Int) ≤ As .i64)) (fun x => (Iu x.1, ()))
theorem Avk : A7 Tryz.prog 131 A28 := B6 Avj 12 (fun x => A27 x.1) (fun x => Ai8 x.1) fun x hok _ => Aia (of_decide_eq_true hok)
noncomputable def Bae : Code := (A8 (bodyOf Tryz.f88)).getD 0 .skip
def A9z : Lay := { keys := [0, 3], ks := [.d .s, .d cI], bs := [], n := 41, nx := 1000, marks := [] }
def Bfp : Lay := { keys := [], ks := [], bs := [], n := 41, nx := 1000, marks := [] }
def Baf : Lay := { keys := [2], ks := [.d .b], bs := [], n := 41, nx := 1000, marks := [] }
def Aa0 : XE → Lay := fun e => match e with | .ret => Baf | _ => Bfp
def A06 (t : ByteArray) (i : Int) : A9z.T := ((t, i, ()), ())
def V3 : A1 Aa0 := ⟨.ret, ((false, ()), ())⟩
def A5a : A1 Aa0 := ⟨.exit 0, ((), ())⟩
abbrev TNm := Tree (A9z.T ⊕ A1 Aa0)
def byI (t : ByteArray) (i : Int) : Int := ((((t.data.toList.getD (Int.toNat i) 0).toNat : Nat)) : Int)
def inI (t : ByteArray) (i : Int) (k : TNm) : TNm := bif decide (0 ≤ i ∧ i < (t.size : Int)) then k else .fail
def Aa1 (t : ByteArray) (i : Int) : TNm := inI t i (bif decide (byI t i ≥ 48) then inI t i (bif !decide (byI t i ≤ 57) then .leaf (.inr V3) else .leaf (.inl (A06 t (W64 (i + 1))))) else .leaf (.inr V3))
def V4 (t : ByteArray) (i : Int) : TNm :=
 bif Ge .i64 (t.size : Int) then bif decide (i < (t.size : Int)) then
  inI t i (bif decide (byI t i ≥ 97) then inI t i (bif decide (byI t i ≤ 122) then .leaf (.inl (A06 t (W64 (i + 1)))) else Aa1 t i) else Aa1 t i)
 else .leaf (.inr A5a) else .fail
def A07 (g : A9z.T) : TNm := V4 g.1.1 g.1.2.1
def Alx (g : A9z.T) : Nat := (D4 g.1.1).length + 1
noncomputable def Bag : Ctx := ctx Tryz.prog [] []
theorem Aly : CtxOk Bag := Ad Ab Aa A2
theorem Bfq : Ae Tryz.prog 88 Bae (A9 A9z Aa0 (Bu [.ret, .exit 0] A07 Alx)) := Aw Aly 7 _ A9z Aa0 (fun e => by cases e <;> exact Nat.le_refl _) [.ret, .exit 0] A07 Alx (fun g => by kernel_rfl)
noncomputable def Bfr : Ctx := Gu Tryz.prog [] [(88, Tryz.f88)] [((88, 4), A9 A9z Aa0 (Bu [.ret, .exit 0] A07 Alx))]
theorem Avl : CtxOk Bfr := Bx Ab Aa (fns_cons is_aE A2) (Bg (by kernel_rfl) (by kernel_rfl) Bfq)
def Alz (t : ByteArray) : Option (A1 Aa0) := iter A07 ((D4 t).length + 1) (A06 t 0)
def B4a (t : ByteArray) : TBo := bif Ge .i64 (t.size : Int) then bif decide ((t.size : Int) < 1) then .leaf (false, ()) else bif Ge .i64 (t.size : Int) then bif decide ((t.size : Int) > 20) then .leaf (false, ()) else
 bif isE .ret (Alz t) then .leaf ((B7 .ret (Alz t)).1.1, ()) else bif isE (.exit 0) (Alz t) then .leaf (true, ()) else .fail else .fail else .fail
theorem B4b {t : ByteArray} {i : Nat} (h : i < (D4 t).length) : byI t (i : Int) = ((((D4 t)[i]).toNat : Nat) : Int) := by
 unfold byI
 rw [show Int.toNat (i : Int) = i by omega]
 show ((((D4 t).getD i 0).toNat : Nat) : Int) = _
 rw [List.getD_eq_getElem?_getD, List.getElem?_eq_getElem h]
 rfl
theorem Avm {t : ByteArray} (h64 : (t.size : Int) ≤ As .i64) : Alz t = some (bif (D4 t).any Rh then V3 else A5a) := by
 have h64' : (t.size : Int) ≤ 9223372036854775807 := h64
 have hlen := N8 t
 unfold Alz
 have key := Gd (st := A07) (D4 t) (fun i (_ : Unit) => A06 t (i : Int)) (fun _ b _ => bif Rh b then some (.inr V3) else some (.inl ())) (fun _ => some A5a) (fun _ _ => True)
  (fun i s hi _ => by
   have hI : decide (0 ≤ (i : Int) ∧ (i : Int) < (t.size : Int)) = true := decide_eq_true (by omega)
   have hrun : (A07 (A06 t (i : Int))).run = some (bif Rh (D4 t)[i] then .inr V3 else .inl (A06 t ((i + 1 : Nat) : Int))) := by
    show (V4 t (i : Int)).run = _
    unfold V4 Aa1 inI Rh A59
    rw [Ai9 (by omega) h64', decide_eq_true (show (i : Int) < (t.size : Int) by omega), hI, B4b hi, Bv (n := (i : Int) + 1) (by omega) (by omega)]
    generalize ((((D4 t)[i]).toNat : Nat) : Int) = b
    by_cases h1 : b < 97
    ·rw [decide_eq_true h1, decide_eq_false (show ¬ b ≥ 97 by omega)]
     by_cases h2 : b < 48
     ·rw [decide_eq_true h2, decide_eq_false (show ¬ b ≥ 48 by omega)]; simp; rfl
     ·rw [decide_eq_false h2, decide_eq_true (show b ≥ 48 by omega)]
      by_cases h3 : b > 57
      ·rw [decide_eq_true h3, decide_eq_false (show ¬ b ≤ 57 by omega)]; simp; rfl
      ·rw [decide_eq_false h3, decide_eq_true (show b ≤ 57 by omega)]; simp; rfl
    ·rw [decide_eq_false h1, decide_eq_true (show b ≥ 97 by omega)]
     by_cases h2 : b > 122
     ·rw [decide_eq_true h2, decide_eq_false (show ¬ b ≤ 122 by omega), decide_eq_false (show ¬ b < 48 by omega), decide_eq_true (show b ≥ 48 by omega), decide_eq_true (show b > 57 by omega), decide_eq_false (show ¬ b ≤ 57 by omega)]; simp; rfl
     ·rw [decide_eq_false h2, decide_eq_true (show b ≤ 122 by omega)]; simp; rfl
   cases hb : Rh (D4 t)[i] with
   | true =>
    rw [hb] at hrun
    simp only [cond_true]
    exact hrun
   | false =>
    rw [hb] at hrun
    simp only [cond_false]
    exact ⟨hrun, trivial⟩)
  (fun s e _ he => by
   cases he
   show (V4 t (((D4 t).length : Nat) : Int)).run = _
   unfold V4
   rw [Ai9 (by omega) h64', decide_eq_false (show ¬ (((D4 t).length : Nat) : Int) < (t.size : Int) by omega)]
   rfl)
  (D4 t).length 0 () (bif (D4 t).any Rh then V3 else A5a) ((D4 t).length + 1) (by omega) (by omega) trivial (by rw [List.drop_zero]; exact Rc Rh (fun _ => V3) A5a _ 0)
 exact key
theorem Avn {t : ByteArray} (h64 : (t.size : Int) ≤ As .i64) : (B4a t).sat (fun y => y = (Iu t, ())) := by
 unfold B4a Iu
 rw [Ai9 (by omega) (show (t.size : Int) ≤ 9223372036854775807 from h64), Avm h64]
 simp only [cond_true]
 by_cases h1 : 1 ≤ t.size
 ·rw [decide_eq_false (show ¬ (t.size : Int) < 1 by omega)]
  by_cases h2 : t.size ≤ 20
  ·rw [decide_eq_false (show ¬ (t.size : Int) > 20 by omega), decide_eq_true (show 1 ≤ t.size ∧ t.size ≤ 20 from ⟨h1, h2⟩)]
   cases (D4 t).any Rh <;> exact rfl
  ·rw [decide_eq_true (show (t.size : Int) > 20 by omega), decide_eq_false (show ¬ (1 ≤ t.size ∧ t.size ≤ 20) from fun h => h2 h.2)]
   exact rfl
 ·rw [decide_eq_true (show (t.size : Int) < 1 by omega), decide_eq_false (show ¬ (1 ≤ t.size ∧ t.size ≤ 20) from fun h => h1 h.1)]
  exact rfl
theorem Avo : A7 Tryz.prog 88 A28 := B6 Avl 7 (fun x => B4a x.1) (fun x => by kernel_rfl) fun x hok _ => Avn (of_decide_eq_true hok)
theorem is_aF : FnIs Tryz.prog (174, Tryz.f174) := ⟨Tryz.func174, by kernel_rfl, by kernel_rfl⟩
theorem is_aG : FnIs Tryz.prog (188, Tryz.f188) := ⟨Tryz.func188, by kernel_rfl, by kernel_rfl⟩
theorem is_aH : FnIs Tryz.prog (111, Tryz.f111) := ⟨Tryz.func111, by kernel_rfl, by kernel_rfl⟩
theorem is_aI : FnIs Tryz.prog (194, Tryz.f194) := ⟨Tryz.func194, by kernel_rfl, by kernel_rfl⟩
theorem is_aJ : FnIs Tryz.prog (204, Tryz.f204) := ⟨Tryz.func204, by kernel_rfl, by kernel_rfl⟩
theorem is_aK : FnIs Tryz.prog (139, Tryz.f139) := ⟨Tryz.func139, by kernel_rfl, by kernel_rfl⟩
def Avp (x y : Int) : Int := bif decide (x < y) then -1 else bif decide (x > y) then 1 else 0
def cdE (a : TCT Al) : Int := Rv a.1.1 a.1.2.1 a.2.1
def sqD (a b : TCT Al) : Int := W64 (W64 (W64 (b.1.1 - a.1.1) * W64 (b.1.1 - a.1.1)) + W64 (W64 (b.1.2.1 - a.1.2.1) * W64 (b.1.2.1 - a.1.2.1)))
def srD (a b : TCT Al) : Int := W64 (W64 (a.2.1 + b.2.1) * W64 (a.2.1 + b.2.1))
def Aib (a b : TCT Al) : Int := bif cdE a == 0 && cdE b == 0 then Avp (sqD a b) (srD a b) else 0
def B4c (a b : TCT Al) : Int := bif cdE a == 0 && cdE b == 0 then 0 else 2
abbrev Ads : PureT := B9 [Al, Al] [cI, cI] (fun _ => true) (fun x => (Aib x.1 x.2.1, B4c x.1 x.2.1, ()))
abbrev TTo := Tree (TCTs [cI, cI])
def B1s (x y : Int) : TTo := bif x != x then bif y != y then .leaf (0, 0, ()) else .leaf (-1, 0, ()) else bif y != y then .leaf (1, 0, ()) else bif decide (x < y) then .leaf (-1, 0, ()) else bif decide (x > y) then .leaf (1, 0, ()) else .leaf (0, 0, ())
def A29 (a b : TCT Al) : TTo := bif cdE a != 0 then .leaf (0, 2, ()) else bif cdE b != 0 then .leaf (0, 2, ()) else B1s (sqD a b) (srD a b)
theorem Aa2 (a b : TCT Al) : (A29 a b).sat (fun y => y = (Aib a b, B4c a b, ())) := by
 unfold A29 Aib B4c B1s Avp
 rw [bne_self_eq_false, bne_self_eq_false]
 have e : ∀ n : Int, (n != 0) = !(n == 0) := fun _ => rfl
 rw [e, e]
 cases cdE a == 0 <;> cases cdE b == 0 <;> try exact rfl
 cases decide (sqD a b < srD a b) <;> cases decide (sqD a b > srD a b) <;> exact rfl
theorem Avq : A7 Tryz.prog 174 Ads := B6 (Ad Ab (A0 is_aG.plain T4 Aa) (fns_cons is_aF (fns_cons is_aH (fns_cons is_aI (fns_cons is_aJ A2))))) 5 (fun x => A29 x.1 x.2.1) (fun x => by kernel_rfl) fun x _ _ => Aa2 _ _
def B4d : List (Nat × PureT) := [(174, Ads), (132, Lz)]
theorem Bah : By Tryz.prog B4d := A0 is_aF.plain Avq (A0 is_ab.plain Km Aa)
noncomputable def Adt : Code := (A8 (bodyOf Tryz.f139)).getD 0 .skip
noncomputable def Adu : Code := (A8 (bodyOf Tryz.f139)).getD 1 .skip
abbrev kD3 : List SK := [.d cI, .d cI, .d cI]
def d3 (d : SKTs kD3) : TCT Al := ((d.1, d.2.1, ()), d.2.2.1, ())
def Bai (d : TCT Al) : TCT Al := ((d.1.1, d.1.2.1, ()), d.2.1, ())
def toD (d : TCT Al) : SKTs kD3 := (d.1.1, d.1.2.1, d.2.1, ())
def Yz : Lay := { keys := [1, 2, 6, 11, 12, 13, 46, 47, 48], ks := [.d (.sl Al), .p 0 0 0 0, .p 1000 0 0 0, .d (.sl Al), .d cI, .d cI, .d (.sl Al), .d cI, .d cI], bs := [(0, 29, kLw), (1000, 26, kD3)], n := 62, nx := 2000, marks := [] }
def Baj : Lay := { keys := [1, 2, 11, 12, 13], ks := [.d (.sl Al), .p 0 0 0 0, .d (.sl Al), .d cI, .d cI], bs := [(0, 29, kLw)], n := 62, nx := 2000, marks := [] }
def B1t : Lay := { keys := [4], ks := [.d .b], bs := [], n := 62, nx := 2000, marks := [] }
def V5 : XE → Lay := fun e => match e with | .ret => B1t | _ => Baj
def V6 : Lay := { keys := [1, 2, 11, 12, 13], ks := [.d (.sl Al), .p 0 0 0 0, .d (.sl Al), .d cI, .d cI], bs := [(0, 29, kLw)], n := 62, nx := 1000, marks := [] }
def Bfs : Lay := { keys := [], ks := [], bs := [], n := 62, nx := 2000, marks := [] }
def A5b : XE → Lay := fun e => match e with | .ret => B1t | _ => Bfs
def V7 (x : SKTs kLw) (d : SKTs kD3) (p q : List (TCT Al)) (n i : Int) (r : List (TCT Al)) (m k : Int) : Yz.T := ((p, (), (), q, n, i, r, m, k, ()), (x, d, ()))
def Sm : A1 V5 := ⟨.ret, ((false, ()), ())⟩
def Sn (x : SKTs kLw) (p q : List (TCT Al)) (n i : Int) : A1 V5 := ⟨.exit 2, ((p, (), q, n, i, ()), (x, ()))⟩
def V8 (g : Yz.T) : Tree (Yz.T ⊕ A1 V5) :=
 bif decide (g.1.2.2.2.2.2.2.2.2.1 < g.1.2.2.2.2.2.2.2.1) then bif decide (0 ≤ g.1.2.2.2.2.2.2.2.2.1 ∧ g.1.2.2.2.2.2.2.2.2.1 < ((g.1.2.2.2.2.2.2.1 : List (TCT Al)).length : Int)) then
  bif decide (Aib (d3 g.2.2.1) (Bai (At g.1.2.2.2.2.2.2.1 (Int.toNat g.1.2.2.2.2.2.2.2.2.1) (Aq Al))) < 0) then .leaf (.inr Sm) else .leaf (.inl (V7 g.2.1 g.2.2.1 g.1.1 g.1.2.2.2.1 g.1.2.2.2.2.1 g.1.2.2.2.2.2.1 g.1.2.2.2.2.2.2.1 g.1.2.2.2.2.2.2.2.1 (W64 (g.1.2.2.2.2.2.2.2.2.1 + 1))))
 else .fail else .leaf (.inr (Sn g.2.1 g.1.1 g.1.2.2.2.1 g.1.2.2.2.2.1 g.1.2.2.2.2.2.1))
def Am0 (g : Yz.T) : Nat := (g.1.2.2.2.2.2.2.1 : List (TCT Al)).length + 1
noncomputable def A5c : Ctx := ctx Tryz.prog B4d []
theorem A5d : CtxOk A5c := Ad Ab Bah A2
theorem Bft : Ae Tryz.prog 139 Adu (A9 Yz V5 (Bu [.ret, .exit 2] V8 Am0)) := Aw A5d 7 _ Yz V5 (fun e => by cases e <;> exact Nat.le_refl _) [.ret, .exit 2] V8 Am0 (fun g => by kernel_rfl)
def Gy {α : Type} (ok : Nat → α → Bool) : Nat → List α → Bool
 | _, [] => true
 | i, x :: l => ok i x && Gy ok (i + 1) l
theorem V9 {α E : Type} (ok : Nat → α → Bool) (r d : E) : ∀ (l : List α) (i : Nat), Zv (fun i x (_ : Unit) => bif ok i x then some (.inl ()) else some (.inr r)) (fun _ => some d) i l () = some (bif Gy ok i l then d else r)
 | [], i => rfl
 | x :: l, i => by
  simp only [Zv, Gy]
  cases ok i x with
  | true => simp only [cond_true, Bool.true_and]; exact V9 ok r d l (i + 1)
  | false => rfl
def touB (d o : TCT Al) : Bool := decide (Aib d o < 0)
theorem Avr (x : SKTs kLw) (d : TCT Al) (p q : List (TCT Al)) (n i : Int) (r : List (TCT Al)) (hr : (r.length : Int) ≤ As .i64) :
  iter V8 (r.length + 1) (V7 x (toD d) p q n i r r.length 0) = some (bif r.any (touB d) then Sm else Sn x p q n i) := by
 have hr' : (r.length : Int) ≤ 9223372036854775807 := hr
 have key := Gd (st := V8) r (fun k (_ : Unit) => V7 x (toD d) p q n i r r.length (k : Int)) (fun _ o _ => bif touB d o then some (.inr Sm) else some (.inl ())) (fun _ => some (Sn x p q n i)) (fun _ _ => True)
  (fun k s hk _ => by
   have hrun : (V8 (V7 x (toD d) p q n i r r.length (k : Int))).run = some (bif touB d r[k] then .inr Sm else .inl (V7 x (toD d) p q n i r r.length ((k + 1 : Nat) : Int))) := by
    show (bif decide ((k : Int) < (r.length : Int)) then bif decide (0 ≤ (k : Int) ∧ (k : Int) < (r.length : Int)) then bif touB d (Bai (At r (Int.toNat (k : Int)) (Aq Al))) then Tree.leaf (Sum.inr Sm) else .leaf (.inl (V7 x (toD d) p q n i r r.length (W64 ((k : Int) + 1)))) else .fail else .leaf (.inr (Sn x p q n i)) : Tree (Yz.T ⊕ A1 V5)).run = _
    rw [decide_eq_true (show (k : Int) < (r.length : Int) by omega), decide_eq_true (show 0 ≤ (k : Int) ∧ (k : Int) < (r.length : Int) by omega), show Int.toNat (k : Int) = k by omega, E7 hk, Bv (n := (k : Int) + 1) (by omega) (by omega)]
    show (bif touB d r[k] then _ else _ : Tree (Yz.T ⊕ A1 V5)).run = _
    cases touB d r[k] <;> rfl
   cases hb : touB d r[k] with
   | true => rw [hb] at hrun; simp only [cond_true]; exact hrun
   | false => rw [hb] at hrun; simp only [cond_false]; exact ⟨hrun, trivial⟩)
  (fun s e _ he => by
   cases he
   show (bif decide ((r.length : Int) < (r.length : Int)) then _ else Tree.leaf (Sum.inr (Sn x p q n i)) : Tree (Yz.T ⊕ A1 V5)).run = _
   rw [decide_eq_false (show ¬ (r.length : Int) < (r.length : Int) by omega)]
   rfl)
  r.length 0 () (bif r.any (touB d) then Sm else Sn x p q n i) (r.length + 1) (by omega) (by omega) trivial (by rw [List.drop_zero]; exact Rc (touB d) (fun _ => Sm) (Sn x p q n i) _ 0)
 exact key
def A08 (x : SKTs kLw) (p q : List (TCT Al)) (n i : Int) : V6.T := ((p, (), q, n, i, ()), (x, ()))
def Pt (b : Bool) : A1 A5b := ⟨.ret, ((b, ()), ())⟩
def So : A1 A5b := ⟨.exit 0, ((), ())⟩
abbrev TAo := Tree (V6.T ⊕ A1 A5b)
def Bak (x : SKTs kLw) (d : SKTs kD3) (p q : List (TCT Al)) (n i : Int) (r : List (TCT Al)) : Option (A1 V5) := iter V8 (r.length + 1) (V7 x d p q n i r r.length 0)
def Bal (r : Baj.T) : V6.T := A08 r.2.1 r.1.1 r.1.2.2.1 r.1.2.2.2.1 (W64 (r.1.2.2.2.2.1 + 1))
def Bam (y : Option (A1 V5)) : TAo := bif isE .ret y then .leaf (.inr (Pt (B7 .ret y).1.1)) else bif isE (.exit 2) y then .leaf (.inl (Bal (B7 (.exit 2) y))) else .fail
def Am1 (x : SKTs kLw) (p q : List (TCT Al)) (n i : Int) (d : TCT Al) : TAo :=
 bif !inR d.1.1 d.2.1 (W64 (x.2.1 - d.2.1)) then .leaf (.inr (Pt false)) else bif !inR d.1.2.1 d.2.1 (W64 (x.2.2.1 - d.2.1)) then .leaf (.inr (Pt false)) else
 bif decide (0 ≤ i ∧ i ≤ (p.length : Int)) then Bam (Bak x (toD d) p q n i (p.take (Int.toNat i))) else .fail
def Va (g : V6.T) : TAo :=
 bif decide (g.1.2.2.2.2.1 < g.1.2.2.2.1) then bif decide (0 ≤ g.1.2.2.2.2.1 ∧ g.1.2.2.2.2.1 < ((g.1.2.2.1 : List (TCT Al)).length : Int)) then
  Am1 g.2.1 g.1.1 g.1.2.2.1 g.1.2.2.2.1 g.1.2.2.2.2.1 (At g.1.2.2.1 (Int.toNat g.1.2.2.2.2.1) (Aq Al)) else .fail else .leaf (.inr So)
def Am2 (g : V6.T) : Nat := (g.1.2.2.1 : List (TCT Al)).length + 1
def B1u : Ib := fun k => bif Nat.beq k 7 then some (A9 Yz V5 (Bu [.ret, .exit 2] V8 Am0)) else none
theorem Bfu (g : V6.T) : evC A5c.P (C4 A5c 7) A5c.pures 139 A5c.u B1u Adt (V6.of g) (F4 V6 A5b) = Va g := by kernel_rfl
theorem Am3 : A8 Adt = [Adu] := by kernel_rfl
theorem Am4 : keyOf Adu = 7 := by kernel_rfl
theorem Bfv : Ae Tryz.prog 139 Adt (A9 V6 A5b (Bu [.ret, .exit 0] Va Am2)) :=
 N4 A5d 7 _ B1u (fun d hd f hf => by
  rw [Am3, List.mem_singleton] at hd
  subst hd
  rw [Am4] at hf
  cases hf
  exact Bft) V6 A5b (fun e => by cases e <;> exact (by decide : (1000 : Nat) ≤ 2000)) [.ret, .exit 0] Va Am2 Bfu
theorem Am5 {P : Program} {f : Nat} {fn : Func} {la : Code} {sum : St → Tree (XE × St)} {k : Nat} (h1 : ∀ d ∈ A8 (bodyOf fn), keyOf d = k → d = la) (h2 : Ae P f la sum) :
  ∀ p ∈ [(f, fn)], ∀ d ∈ A8 (bodyOf p.2), ∀ g, Bn [((f, k), sum)] p.1 (keyOf d) = some g → Ae P p.1 d g := by
 intro p hp d hd g hg
 simp only [List.mem_singleton] at hp
 subst hp
 simp only at hd hg
 by_cases hk : keyOf d = k
 ·rw [h1 d hd hk]
  rw [hk] at hg
  simp [Bn] at hg
  subst hg
  exact h2
 ·have : Nat.beq k (keyOf d) = false := by
   cases h : Nat.beq k (keyOf d) with
   | false => rfl
   | true => exact absurd (Nat.eq_of_beq_eq_true h).symm hk
  simp only [Bn, this, Bool.and_false, cond_false] at hg
  cases hg
theorem Am6 : A8 (bodyOf Tryz.f139) = [Adt, Adu] := by kernel_rfl
noncomputable def Bfw : Ctx := Gu Tryz.prog B4d [(139, Tryz.f139)] [((139, 2), A9 V6 A5b (Bu [.ret, .exit 0] Va Am2))]
theorem Avs : CtxOk Bfw := Bx Ab Bah (fns_cons is_aK A2) (Am5 (fun d hd hk => by
 rw [Am6, List.mem_cons, List.mem_singleton] at hd
 rcases hd with rfl | rfl
 ·rfl
 ·rw [Am4] at hk; cases hk) Bfv)
def Oo (w l : Int) (d : TCT Al) : Bool := inR d.1.1 d.2.1 (W64 (w - d.2.1)) && inR d.1.2.1 d.2.1 (W64 (l - d.2.1))
def apF (w l : Int) (p : List (TCT Al)) : Bool := Gy (fun i d => Oo w l d && !(p.take i).any (touB d)) 0 p
def Am7 (l : TCT An) (p : List (TCT Al)) : Option (A1 A5b) := iter Va (p.length + 1) (A08 (Dx l) p p p.length 0)
def B4e (l : TCT An) (p : List (TCT Al)) : TBo := bif isE .ret (Am7 l p) then .leaf ((B7 .ret (Am7 l p)).1.1, ()) else bif isE (.exit 0) (Am7 l p) then .leaf (true, ()) else .fail
theorem Avt (l : TCT An) (p : List (TCT Al)) (hp : (p.length : Int) ≤ As .i64) : Am7 l p = some (bif apF l.2.1 l.2.2.1 p then So else Pt false) := by
 have hp' : (p.length : Int) ≤ 9223372036854775807 := hp
 unfold Am7
 have key := Gd (st := Va) p (fun i (_ : Unit) => A08 (Dx l) p p p.length (i : Int)) (fun i d _ => bif Oo l.2.1 l.2.2.1 d && !(p.take i).any (touB d) then some (.inl ()) else some (.inr (Pt false))) (fun _ => some So) (fun _ _ => True)
  (fun i s hi _ => by
   have hrun : (Va (A08 (Dx l) p p p.length (i : Int))).run = some (bif Oo l.2.1 l.2.2.1 p[i] && !(p.take i).any (touB p[i]) then .inl (A08 (Dx l) p p p.length ((i + 1 : Nat) : Int)) else .inr (Pt false)) := by
    show (bif decide ((i : Int) < (p.length : Int)) then bif decide (0 ≤ (i : Int) ∧ (i : Int) < (p.length : Int)) then Am1 (Dx l) p p p.length (i : Int) (At p (Int.toNat (i : Int)) (Aq Al)) else .fail else .leaf (.inr So) : TAo).run = _
    rw [decide_eq_true (show (i : Int) < (p.length : Int) by omega), decide_eq_true (show 0 ≤ (i : Int) ∧ (i : Int) < (p.length : Int) by omega), show Int.toNat (i : Int) = i by omega, E7 hi]
    simp only [cond_true]
    unfold Am1 Oo
    have hw : (Dx l).2.1 = l.2.1 := rfl
    have hl : (Dx l).2.2.1 = l.2.2.1 := rfl
    rw [hw, hl]
    cases inR p[i].1.1 p[i].2.1 (W64 (l.2.1 - p[i].2.1)) with
    | false => rfl
    | true =>
     cases inR p[i].1.2.1 p[i].2.1 (W64 (l.2.2.1 - p[i].2.1)) with
     | false => rfl
     | true =>
      simp only [Bool.not_true, cond_false, Bool.true_and]
      have ht : (p.take i).length = i := by rw [List.length_take]; omega
      have hy : Bak (Dx l) (toD p[i]) p p p.length (i : Int) (p.take i) = some (bif (p.take i).any (touB p[i]) then Sm else Sn (Dx l) p p p.length (i : Int)) :=
       Avr (Dx l) p[i] p p p.length (i : Int) (p.take i) (by rw [ht]; show (i : Int) ≤ 9223372036854775807; omega)
      rw [decide_eq_true (show 0 ≤ (i : Int) ∧ (i : Int) ≤ (p.length : Int) by omega), cond_true, show Int.toNat (i : Int) = i by omega, hy]
      cases (p.take i).any (touB p[i]) with
      | true => rfl
      | false =>
       show (Tree.leaf (Sum.inl (A08 (Dx l) p p p.length (W64 ((i : Int) + 1)))) : TAo).run = _
       rw [Bv (n := (i : Int) + 1) (by omega) (by omega)]
       rfl
   cases hb : Oo l.2.1 l.2.2.1 p[i] && !(p.take i).any (touB p[i]) with
   | true => rw [hb] at hrun; simp only [cond_true]; exact ⟨hrun, trivial⟩
   | false => rw [hb] at hrun; simp only [cond_false]; exact hrun)
  (fun s e _ he => by
   cases he
   show (bif decide ((p.length : Int) < (p.length : Int)) then _ else Tree.leaf (Sum.inr So) : TAo).run = _
   rw [decide_eq_false (show ¬ (p.length : Int) < (p.length : Int) by omega)]
   rfl)
  p.length 0 () (bif apF l.2.1 l.2.2.1 p then So else Pt false) (p.length + 1) (by omega) (by omega) trivial (by
   rw [List.drop_zero]
   exact V9 (fun i d => Oo l.2.1 l.2.2.1 d && !(p.take i).any (touB d)) (Pt false) So p 0)
 exact key
abbrev Adv : PureT := B9 [An, .sl Al] [.b] (fun _ => true) (fun x => (apF x.1.2.1 x.1.2.2.1 x.2.1, ()))
theorem Avu : A7 Tryz.prog 139 Adv := B6 Avs 7 (fun x => B4e x.1 x.2.1) (fun x => by kernel_rfl) fun x _ hw => by
 show (B4e x.1 x.2.1).sat _
 unfold B4e
 rw [Avt x.1 x.2.1 (Es hw.2.1)]
 show ((bif isE .ret (some (bif apF x.1.2.1 x.1.2.2.1 x.2.1 then So else Pt false)) then _ else _ : TBo)).sat (fun y => y = (apF x.1.2.1 x.1.2.2.1 x.2.1, ()))
 cases apF x.1.2.1 x.1.2.2.1 x.2.1 <;> exact rfl
theorem is_aL : FnIs Tryz.prog (75, Tryz.f75) := ⟨Tryz.func75, by kernel_rfl, by kernel_rfl⟩
def nxL (l : TCT An) : Int := l.2.2.2.2.2.2.1
def nyL (l : TCT An) : Int := l.2.2.2.2.2.2.2.1
def C8 (l : TCT An) : List (TCT C7) := l.2.2.2.2.2.2.2.2.1
def Lj (l : TCT An) : Bool := decide (((Ao l).length : Int) < 1) || (decide (((Ao l).length : Int) > 12) || decide (((C8 l).length : Int) > 256))
def Aa3 (l : TCT An) : Bool := Iu l.1 && (inR l.2.1 65536 4194304 && (inR l.2.2.1 65536 4194304 && inR l.2.2.2.1 0 (W64 (Int.tdiv (min l.2.1 l.2.2.1) 4))))
def Aa4 (l : TCT An) : Bool := !decide (nxL l < 1) && (!decide (nxL l > 16) && (!decide (nyL l < 1) && (!decide (nyL l > 16) && !(((C8 l).length : Int) != W64 (nxL l * nyL l)))))
def okL (l : TCT An) : Bool := Aa3 l && (inR (K3 l).2.1 1 8192 && (Aa4 l && ((Ao l).all Fl && ((C8 l).all Gf && apF l.2.1 l.2.2.1 (D1 l)))))
def Cn (l : TCT An) : Int := bif Lj l then 6 else bif okL l then 0 else 2
abbrev Vb : PureT := B9 [An] [cI] (fun x => decide ((x.1.1.size : Int) ≤ As .i64)) (fun x => (Cn x.1, ()))
def Bfx : List (Nat × PureT) := [(131, A28), (132, Lz), (140, N7), (139, Adv), (133, A4s), (136, A4x)]
theorem Bfy : By Tryz.prog Bfx := A0 is_az.plain Avk (A0 is_ab.plain Km (A0 is_av.plain Adr (A0 is_aK.plain Avu (A0 is_ao.plain Al7 (A0 is_aq.plain Alc Aa)))))
abbrev TEr := Tree (TCTs [cI])
def er (c : Bool) (e : Int) (k : TEr) : TEr := bif c then .leaf (e, ()) else k
theorem Lk {a b : Bool} {e : Int} {k : TEr} : er (a || b) e k = er a e (er b e k) := by cases a <;> cases b <;> rfl
def B4f (l : TCT An) : TEr :=
 er (decide (((Ao l).length : Int) < 1)) 6 (er (decide (((Ao l).length : Int) > 12)) 6 (er (decide (((C8 l).length : Int) > 256)) 6 (
 bif decide ((l.1.size : Int) ≤ As .i64) then er (!Iu l.1) 2 (er (!inR l.2.1 65536 4194304) 2 (er (!inR l.2.2.1 65536 4194304) 2 (er (!inR l.2.2.2.1 0 (W64 (Int.tdiv (min l.2.1 l.2.2.1) 4))) 2 (er (!inR (K3 l).2.1 1 8192) 2 (
  er (decide (nxL l < 1)) 2 (er (decide (nxL l > 16)) 2 (er (decide (nyL l < 1)) 2 (er (decide (nyL l > 16)) 2 (er (((C8 l).length : Int) != W64 (nxL l * nyL l)) 2 (
  er ((Ao l).any (Dj ())) 2 (er ((C8 l).any (Dk ())) 2 (
  bif decide ((Ao l).length ≤ 1000) then er (!apF l.2.1 l.2.2.1 (D1 l)) 2 (.leaf (0, ())) else .fail))))))))))))
 else .fail)))
theorem J8 {α : Type} (p : α → Bool) (l : List α) : l.any (fun x => !p x) = !l.all p := by
 induction l with
 | nil => rfl
 | cons x l ih => simp only [List.any_cons, List.all_cons, ih, Bool.not_and]
theorem Avv {l : TCT An} (hs : (l.1.size : Int) ≤ As .i64) : (B4f l).sat (fun y => y = (Cn l, ())) := by
 unfold B4f Cn
 rw [← Lk, ← Lk, Bool.or_assoc]
 show (er (Lj l) 6 _).sat _
 cases hm : Lj l with
 | true => exact rfl
 | false =>
  have h12 : (Ao l).length ≤ 1000 := by
   unfold Lj at hm
   simp only [Bool.or_eq_false_iff, decide_eq_false_iff_not] at hm
   omega
  rw [decide_eq_true hs, decide_eq_true h12]
  show (er (!Iu l.1) 2 _).sat (fun y => y = ((bif okL l then 0 else 2), ()))
  have hh : (Ao l).any (Dj ()) = !(Ao l).all Fl := J8 Fl _
  have hc : (C8 l).any (Dk ()) = !(C8 l).all Gf := J8 Gf _
  rw [hh, hc]
  unfold okL Aa3 Aa4
  simp only [cond_true]
  generalize Iu l.1 = b1
  generalize inR l.2.1 65536 4194304 = b2
  generalize inR l.2.2.1 65536 4194304 = b3
  generalize inR l.2.2.2.1 0 (W64 (Int.tdiv (min l.2.1 l.2.2.1) 4)) = b4
  generalize inR (K3 l).2.1 1 8192 = b5
  generalize decide (nxL l < 1) = b6
  generalize decide (nxL l > 16) = b7
  generalize decide (nyL l < 1) = b8
  generalize decide (nyL l > 16) = b9
  generalize (((C8 l).length : Int) != W64 (nxL l * nyL l)) = b10
  generalize (Ao l).all Fl = b11
  generalize (C8 l).all Gf = b12
  generalize apF l.2.1 l.2.2.1 (D1 l) = b13
  cases b1 <;> try exact rfl
  cases b2 <;> try exact rfl
  cases b3 <;> try exact rfl
  cases b4 <;> try exact rfl
  cases b5 <;> try exact rfl
  cases b6 <;> try exact rfl
  cases b7 <;> try exact rfl
  cases b8 <;> try exact rfl
  cases b9 <;> try exact rfl
  cases b10 <;> try exact rfl
  cases b11 <;> try exact rfl
  cases b12 <;> try exact rfl
  cases b13 <;> exact rfl
theorem A5e : A7 Tryz.prog 75 Vb := B6 (Ad Ab Bfy (fns_cons is_aL A2)) 7 (fun x => B4f x.1) (fun x => by kernel_rfl) fun x hok _ => Avv (of_decide_eq_true hok)
theorem M0 {G E α : Type} {st : G → Tree (G ⊕ E)} (l : List α) (d : α) (hd : Int → G) (bad : α → Bool) (rt ex : E) (hl : (l.length : Int) ≤ As .i64)
  (h : ∀ i : Int, st (hd i) = bif decide (i < (l.length : Int)) then bif decide (0 ≤ i ∧ i < (l.length : Int)) then bif bad (At l (Int.toNat i) d) then .leaf (.inr rt) else .leaf (.inl (hd (W64 (i + 1)))) else .fail else .leaf (.inr ex)) :
  iter st (l.length + 1) (hd 0) = some (bif l.any bad then rt else ex) := by
 have hl' : (l.length : Int) ≤ 9223372036854775807 := hl
 have key := Gd (st := st) l (fun i (_ : Unit) => hd (i : Int)) (fun _ x _ => bif bad x then some (.inr rt) else some (.inl ())) (fun _ => some ex) (fun _ _ => True)
  (fun i s hi _ => by
   have hrun : (st (hd (i : Int))).run = some (bif bad l[i] then .inr rt else .inl (hd ((i + 1 : Nat) : Int))) := by
    rw [h, decide_eq_true (show (i : Int) < (l.length : Int) by omega), decide_eq_true (show 0 ≤ (i : Int) ∧ (i : Int) < (l.length : Int) by omega), show Int.toNat (i : Int) = i by omega, E7 hi, Bv (n := (i : Int) + 1) (by omega) (by omega)]
    cases bad l[i] <;> rfl
   cases hb : bad l[i] with
   | true => rw [hb] at hrun; simp only [cond_true]; exact hrun
   | false => rw [hb] at hrun; simp only [cond_false]; exact ⟨hrun, trivial⟩)
  (fun s e _ he => by
   cases he
   rw [h, decide_eq_false (show ¬ (l.length : Int) < (l.length : Int) by omega)]
   rfl)
  l.length 0 () (bif l.any bad then rt else ex) (l.length + 1) (by omega) (by omega) trivial (by rw [List.drop_zero]; exact Rc bad (fun _ => rt) ex _ 0)
 exact key
theorem Vc {G E α : Type} {st : G → Tree (G ⊕ E)} (l : List α) (d : α) (hd : Int → G) (ok : Nat → α → Bool) (body : Int → α → Tree (G ⊕ E)) (rt ex : E) (hl : (l.length : Int) ≤ As .i64)
  (h : ∀ i : Int, st (hd i) = bif decide (i < (l.length : Int)) then bif decide (0 ≤ i ∧ i < (l.length : Int)) then body i (At l (Int.toNat i) d) else .fail else .leaf (.inr ex))
  (hb : ∀ (i : Nat) (hi : i < l.length), (body (i : Int) l[i]).run = some (bif ok i l[i] then .inl (hd ((i + 1 : Nat) : Int)) else .inr rt)) :
  iter st (l.length + 1) (hd 0) = some (bif Gy ok 0 l then ex else rt) := by
 have hl' : (l.length : Int) ≤ 9223372036854775807 := hl
 have key := Gd (st := st) l (fun i (_ : Unit) => hd (i : Int)) (fun i x _ => bif ok i x then some (.inl ()) else some (.inr rt)) (fun _ => some ex) (fun _ _ => True)
  (fun i s hi _ => by
   have hrun : (st (hd (i : Int))).run = some (bif ok i l[i] then .inl (hd ((i + 1 : Nat) : Int)) else .inr rt) := by
    rw [h, decide_eq_true (show (i : Int) < (l.length : Int) by omega), decide_eq_true (show 0 ≤ (i : Int) ∧ (i : Int) < (l.length : Int) by omega), show Int.toNat (i : Int) = i by omega, E7 hi]
    exact hb i hi
   cases hk : ok i l[i] with
   | true => rw [hk] at hrun; simp only [cond_true]; exact ⟨hrun, trivial⟩
   | false => rw [hk] at hrun; simp only [cond_false]; exact hrun)
  (fun s e _ he => by
   cases he
   rw [h, decide_eq_false (show ¬ (l.length : Int) < (l.length : Int) by omega)]
   rfl)
  l.length 0 () (bif Gy ok 0 l then ex else rt) (l.length + 1) (by omega) (by omega) trivial (by rw [List.drop_zero]; exact V9 ok rt ex _ 0)
 exact key
theorem is_aM : FnIs Tryz.prog (42, Tryz.f42) := ⟨Tryz.func42, by kernel_rfl, by kernel_rfl⟩
theorem is_aN : FnIs Tryz.prog (93, Tryz.f93) := ⟨Tryz.func93, by kernel_rfl, by kernel_rfl⟩
def B4g : List (Nat × PureT) := [(88, A28), (89, Lz), (92, N7), (90, A1y), (91, A1z)]
theorem Ban : By Tryz.prog B4g := A0 is_aE.plain Avo (A0 is_ac.plain K2 (A0 is_ay.plain A58 (A0 is_ae.plain Av7 (A0 is_ag.plain Al2 Aa))))
noncomputable def A5f : Ctx := ctx Tryz.prog B4g [(93, Tryz.f93)]
theorem Pu : CtxOk A5f := Ad Ab Ban (fns_cons is_aN A2)
abbrev bL : BK := (0, 29, kLw)
noncomputable def Am8 : Code := (A8 (bodyOf Tryz.f42)).getD 0 .skip
noncomputable def Am9 : Code := (A8 (bodyOf Tryz.f42)).getD 1 .skip
noncomputable def A5g : Code := (A8 (bodyOf Tryz.f42)).getD 2 .skip
noncomputable def Adw : Code := (A8 (bodyOf Tryz.f42)).getD 3 .skip
def Aa5 : Lay := { keys := [1, 3], ks := [.p 0 0 0 0, .d cI], bs := [bL], n := 224, nx := 1000, marks := [] }
def A5h : Lay := { keys := [1], ks := [.p 0 0 0 0], bs := [bL], n := 224, nx := 1000, marks := [] }
def Bfz : Lay := { keys := [2], ks := [.d cI], bs := [], n := 224, nx := 1000, marks := [] }
def Ri : XE → Lay := fun e => match e with | .ret => Bfz | _ => A5h
def Ama (x : SKTs kLw) (i : Int) : Aa5.T := (((), i, ()), (x, ()))
def A09 : A1 Ri := ⟨.ret, ((2, ()), ())⟩
def Amb (x : SKTs kLw) : A1 Ri := ⟨.exit 0, (((), ()), (x, ()))⟩
def Bg0 (h : TCT Bh) : TCT Bh := (h.1, h.2.1, h.2.2.1, h.2.2.2.1, h.2.2.2.2.1, ())
def hsX (x : SKTs kLw) : List (TCT Bh) := x.2.2.2.2.1
def csX (x : SKTs kLw) : List (TCT C7) := x.2.2.2.2.2.2.2.2.2.2.1
def Adx (g : Aa5.T) : Tree (Aa5.T ⊕ A1 Ri) := bif decide (g.1.2.1 < ((hsX g.2.1).length : Int)) then bif decide (0 ≤ g.1.2.1 ∧ g.1.2.1 < ((hsX g.2.1).length : Int)) then
 bif !Fl (Bg0 (At (hsX g.2.1) (Int.toNat g.1.2.1) (Aq Bh))) then .leaf (.inr A09) else .leaf (.inl (Ama g.2.1 (W64 (g.1.2.1 + 1)))) else .fail else .leaf (.inr (Amb g.2.1))
def Amc (g : Aa5.T) : Nat := (hsX g.2.1).length + 1
theorem Bg1 : Ae Tryz.prog 42 Am8 (A9 Aa5 Ri (Bu [.ret, .exit 0] Adx Amc)) := Aw Pu 7 _ Aa5 Ri (fun e => by cases e <;> exact Nat.le_refl _) [.ret, .exit 0] Adx Amc (fun g => by kernel_rfl)
def Aa6 : Lay := { keys := [1, 4], ks := [.p 0 0 0 0, .d cI], bs := [bL], n := 224, nx := 1000, marks := [] }
def Amd (x : SKTs kLw) (i : Int) : Aa6.T := (((), i, ()), (x, ()))
def Ame (x : SKTs kLw) : A1 Ri := ⟨.exit 2, (((), ()), (x, ()))⟩
def Ady (g : Aa6.T) : Tree (Aa6.T ⊕ A1 Ri) := bif decide (g.1.2.1 < ((csX g.2.1).length : Int)) then bif decide (0 ≤ g.1.2.1 ∧ g.1.2.1 < ((csX g.2.1).length : Int)) then
 bif !Gf (At (csX g.2.1) (Int.toNat g.1.2.1) (Aq C7)) then .leaf (.inr A09) else .leaf (.inl (Amd g.2.1 (W64 (g.1.2.1 + 1)))) else .fail else .leaf (.inr (Ame g.2.1))
def Amf (g : Aa6.T) : Nat := (csX g.2.1).length + 1
theorem Bg2 : Ae Tryz.prog 42 Am9 (A9 Aa6 Ri (Bu [.ret, .exit 2] Ady Amf)) := Aw Pu 7 _ Aa6 Ri (fun e => by cases e <;> exact Nat.le_refl _) [.ret, .exit 2] Ady Amf (fun g => by kernel_rfl)
def A5i : Lay := { keys := [1, 5, 6, 7], ks := [.p 0 0 0 0, .d (.sl Al), .d cI, .d cI], bs := [bL], n := 224, nx := 2000, marks := [] }
def Bao : Lay := { keys := [1, 5, 6], ks := [.p 0 0 0 0, .d (.sl Al), .d cI], bs := [bL], n := 224, nx := 2000, marks := [] }
def B1v : Lay := { keys := [2], ks := [.d cI], bs := [], n := 224, nx := 2000, marks := [] }
def A2a : XE → Lay := fun e => match e with | .ret => B1v | _ => Bao
def Vd : Lay := { keys := [1, 5, 6], ks := [.p 0 0 0 0, .d (.sl Al), .d cI], bs := [bL], n := 224, nx := 1000, marks := [] }
def Bg3 : Lay := { keys := [], ks := [], bs := [], n := 224, nx := 2000, marks := [] }
def A5j : XE → Lay := fun e => match e with | .ret => B1v | _ => Bg3
def sqR (a b : TCT Al) : Int := W64 (W64 (W64 (a.1.1 - b.1.1) * W64 (a.1.1 - b.1.1)) + W64 (W64 (a.1.2.1 - b.1.2.1) * W64 (a.1.2.1 - b.1.2.1)))
def Z0 (d o : TCT Al) : Bool := decide (sqR d o < srD d o)
def inP {β : Type} (p : List (TCT Al)) (i : Int) (k : Tree β) : Tree β := bif decide (0 ≤ i ∧ i < (p.length : Int)) then k else .fail
theorem Gg {β : Type} {p : List (TCT Al)} {i : Int} {k : Tree β} (h : 0 ≤ i ∧ i < (p.length : Int)) : inP p i k = k := by unfold inP; rw [decide_eq_true h]; rfl
def gD (p : List (TCT Al)) (i : Int) : TCT Al := At p (Int.toNat i) (Aq Al)
def Adz (x : SKTs kLw) (p : List (TCT Al)) (i k : Int) : A5i.T := (((), p, i, k, ()), (x, ()))
def Ae0 : A1 A2a := ⟨.ret, ((2, ()), ())⟩
def Ae1 (x : SKTs kLw) (p : List (TCT Al)) (i : Int) : A1 A2a := ⟨.exit 6, (((), p, i, ()), (x, ()))⟩
def Aa7 (x : SKTs kLw) (p : List (TCT Al)) (i k : Int) : Tree (A5i.T ⊕ A1 A2a) := bif decide (k < i) then
 inP p i (inP p k (inP p i (inP p k (inP p i (inP p k (inP p i (inP p k (bif Z0 (gD p i) (gD p k) then .leaf (.inr Ae0) else .leaf (.inl (Adz x p i (W64 (k + 1)))))))))))) else .leaf (.inr (Ae1 x p i))
def A5k (g : A5i.T) : Tree (A5i.T ⊕ A1 A2a) := Aa7 g.2.1 g.1.2.1 g.1.2.2.1 g.1.2.2.2.1
def Amg (g : A5i.T) : Nat := (List.take (Int.toNat g.1.2.2.1) (g.1.2.1 : List (TCT Al))).length + 1
theorem Bg4 : Ae Tryz.prog 42 Adw (A9 A5i A2a (Bu [.ret, .exit 6] A5k Amg)) := Aw Pu 7 _ A5i A2a (fun e => by cases e <;> exact Nat.le_refl _) [.ret, .exit 6] A5k Amg (fun g => by kernel_rfl)
theorem Avw (x : SKTs kLw) (p : List (TCT Al)) (i : Nat) (hi : i < p.length) (hp : (p.length : Int) ≤ As .i64) :
  iter A5k ((p.take i).length + 1) (Adz x p i 0) = some (bif (p.take i).any (Z0 p[i]) then Ae0 else Ae1 x p i) := by
 have ht : (p.take i).length = i := by rw [List.length_take]; omega
 have hp' : (p.length : Int) ≤ 9223372036854775807 := hp
 refine M0 (p.take i) (Aq Al) (fun k => Adz x p i k) (Z0 p[i]) Ae0 (Ae1 x p i) (by rw [ht]; show (i : Int) ≤ 9223372036854775807; omega) fun k => ?_
 show Aa7 x p i k = _
 unfold Aa7
 rw [ht]
 by_cases hk : k < (i : Int)
 ·rw [decide_eq_true hk, cond_true, cond_true]
  by_cases h0 : 0 ≤ k
  ·have hki : 0 ≤ k ∧ k < (p.length : Int) := by omega
   have hii : 0 ≤ (i : Int) ∧ (i : Int) < (p.length : Int) := by omega
   have e1 : gD p (i : Int) = p[i] := by unfold gD; rw [show Int.toNat (i : Int) = i by omega, E7 hi]
   have e2 : gD p k = At (p.take i) (Int.toNat k) (Aq Al) := by
    unfold gD
    have h1 : Int.toNat k < p.length := by omega
    have h2 : Int.toNat k < (p.take i).length := by omega
    rw [E7 h1, E7 h2, List.getElem_take]
   rw [Gg hii, Gg hki, Gg hii, Gg hki, Gg hii, Gg hki, Gg hii, Gg hki, e1, e2, decide_eq_true (show 0 ≤ k ∧ k < (i : Int) by omega)]
   rfl
  ·have hii : 0 ≤ (i : Int) ∧ (i : Int) < (p.length : Int) := by omega
   rw [Gg hii, decide_eq_false (show ¬ (0 ≤ k ∧ k < (i : Int)) by omega)]
   unfold inP
   rw [decide_eq_false (show ¬ (0 ≤ k ∧ k < (p.length : Int)) by omega)]
   rfl
 ·rw [decide_eq_false hk]; rfl
def Ae2 (x : SKTs kLw) (p : List (TCT Al)) (i : Int) : Vd.T := (((), p, i, ()), (x, ()))
def A0a (e : Int) : A1 A5j := ⟨.ret, ((e, ()), ())⟩
def Ae3 : A1 A5j := ⟨.exit 4, ((), ())⟩
abbrev TC3 := Tree (Vd.T ⊕ A1 A5j)
def B4h (x : SKTs kLw) (p : List (TCT Al)) (i : Int) : Option (A1 A2a) := iter A5k ((p.take (Int.toNat i)).length + 1) (Adz x p i 0)
def Bap (r : Bao.T) : Vd.T := Ae2 r.2.1 r.1.2.1 (W64 (r.1.2.2.1 + 1))
def Baq (y : Option (A1 A2a)) : TC3 := bif isE .ret y then .leaf (.inr (A0a (B7 .ret y).1.1)) else bif isE (.exit 6) y then .leaf (.inl (Bap (B7 (.exit 6) y))) else .fail
def Amh (x : SKTs kLw) (p : List (TCT Al)) (i : Int) (d : TCT Al) : TC3 :=
 inP p i (inP p i (bif !inR d.1.1 d.2.1 (W64 (x.2.1 - d.2.1)) then .leaf (.inr (A0a 2)) else inP p i (inP p i (inP p i (bif !inR d.1.2.1 d.2.1 (W64 (x.2.2.1 - d.2.1)) then .leaf (.inr (A0a 2)) else Baq (B4h x p i))))))
def A5l (g : Vd.T) : TC3 := bif decide (g.1.2.2.1 < ((g.1.2.1 : List (TCT Al)).length : Int)) then bif decide (0 ≤ g.1.2.2.1 ∧ g.1.2.2.1 < ((g.1.2.1 : List (TCT Al)).length : Int)) then Amh g.2.1 g.1.2.1 g.1.2.2.1 (gD g.1.2.1 g.1.2.2.1) else .fail else .leaf (.inr Ae3)
def Ami (g : Vd.T) : Nat := (g.1.2.1 : List (TCT Al)).length + 1
def B1w : Ib := fun k => bif Nat.beq k 24 then some (A9 A5i A2a (Bu [.ret, .exit 6] A5k Amg)) else none
theorem Bg5 (g : Vd.T) : evC A5f.P (C4 A5f 7) A5f.pures 42 A5f.u B1w A5g (Vd.of g) (F4 Vd A5j) = A5l g := by kernel_rfl
theorem Amj : A8 A5g = [Adw] := by kernel_rfl
theorem Amk : keyOf Adw = 24 := by kernel_rfl
theorem Bg6 : Ae Tryz.prog 42 A5g (A9 Vd A5j (Bu [.ret, .exit 4] A5l Ami)) :=
 N4 Pu 7 _ B1w (fun d hd f hf => by
  rw [Amj, List.mem_singleton] at hd
  subst hd
  rw [Amk] at hf
  cases hf
  exact Bg4) Vd A5j (fun e => by cases e <;> exact (by decide : (1000 : Nat) ≤ 2000)) [.ret, .exit 4] A5l Ami Bg5
theorem B4i : keyOf Am8 = 6 := by kernel_rfl
theorem B4j : keyOf Am9 = 13 := by kernel_rfl
theorem B4k : keyOf A5g = 19 := by kernel_rfl
theorem Aml : A8 (bodyOf Tryz.f42) = [Am8, Am9, A5g, Adw] := by kernel_rfl
noncomputable def Amm : List ((Nat × Nat) × (St → Tree (XE × St))) := [((42, 6), A9 Aa5 Ri (Bu [.ret, .exit 0] Adx Amc)), ((42, 13), A9 Aa6 Ri (Bu [.ret, .exit 2] Ady Amf)), ((42, 19), A9 Vd A5j (Bu [.ret, .exit 4] A5l Ami))]
noncomputable def Bar : Ctx := Gu Tryz.prog B4g [(42, Tryz.f42)] Amm
theorem Avx : CtxOk Bar := Bx Ab Ban (fns_cons is_aM A2) (fun p hp d hd g hg => by
 rw [List.mem_singleton] at hp
 subst hp
 have hd : d ∈ A8 (bodyOf Tryz.f42) := hd
 rw [Aml] at hd
 simp only [List.mem_cons, List.not_mem_nil, or_false] at hd
 have hg : Bn Amm 42 (keyOf d) = some g := hg
 rcases hd with rfl | rfl | rfl | rfl
 ·rw [B4i] at hg
  cases hg
  exact Bg1
 ·rw [B4j] at hg
  cases hg
  exact Bg2
 ·rw [B4k] at hg
  cases hg
  exact Bg6
 ·rw [Amk] at hg
  cases hg)
def Amn (x : SKTs kLw) : Option (A1 Ri) := iter Adx ((hsX x).length + 1) (Ama x 0)
def Amo (x : SKTs kLw) : Option (A1 Ri) := iter Ady ((csX x).length + 1) (Amd x 0)
def Amp (x : SKTs kLw) (p : List (TCT Al)) : Option (A1 A5j) := iter A5l (p.length + 1) (Ae2 x p 0)
def Amq (r : A5h.T) : TEr := bif decide ((hsX r.2.1).length ≤ 1000) then
 bif isE .ret (Amp r.2.1 (D1 (Lr r.2.1))) then .leaf ((B7 .ret (Amp r.2.1 (D1 (Lr r.2.1)))).1.1, ()) else bif isE (.exit 4) (Amp r.2.1 (D1 (Lr r.2.1))) then .leaf (0, ()) else .fail else .fail
def Amr (r : A5h.T) : TEr := er (!inR (K3 (Lr r.2.1)).2.1 1 8192) 2 (er (!inR (K3 (Lr r.2.1)).1.1 0 4194304) 2 (er (!inR (K3 (Lr r.2.1)).1.2.1 0 4194304) 2 (
 er (decide (nxL (Lr r.2.1) < 1)) 2 (er (decide (nxL (Lr r.2.1) > 16)) 2 (er (decide (nyL (Lr r.2.1) < 1)) 2 (er (decide (nyL (Lr r.2.1) > 16)) 2 (er (((csX r.2.1).length : Int) != W64 (nxL (Lr r.2.1) * nyL (Lr r.2.1))) 2 (
 bif isE .ret (Amo r.2.1) then .leaf ((B7 .ret (Amo r.2.1)).1.1, ()) else bif isE (.exit 2) (Amo r.2.1) then Amq (B7 (.exit 2) (Amo r.2.1)) else .fail))))))))
def Avy (l : TCT An) : TEr :=
 er (decide (((Ao l).length : Int) < 1)) 6 (er (decide (((Ao l).length : Int) > 12)) 6 (er (decide (((C8 l).length : Int) > 256)) 6 (
 bif decide ((l.1.size : Int) ≤ As .i64) then er (!Iu l.1) 2 (er (!inR l.2.1 65536 4194304) 2 (er (!inR l.2.2.1 65536 4194304) 2 (er (!inR l.2.2.2.1 0 (W64 (Int.tdiv (min l.2.1 l.2.2.1) 4))) 2 (
  bif isE .ret (Amn (Dx l)) then .leaf ((B7 .ret (Amn (Dx l))).1.1, ()) else bif isE (.exit 0) (Amn (Dx l)) then Amr (B7 (.exit 0) (Amn (Dx l))) else .fail))))
 else .fail)))
theorem Avz (x : TCTs [An]) : C4 Bar 7 (.fn 42) (Ce [An] x) Be 0 (Ft Tryz.prog [cI]) = Avy x.1 := by kernel_rfl
def apR (w l : Int) (p : List (TCT Al)) : Bool := Gy (fun i d => Oo w l d && !(p.take i).any (Z0 d)) 0 p
theorem Aw0 (x : SKTs kLw) (hl : ((hsX x).length : Int) ≤ As .i64) : Amn x = some (bif (hsX x).any (fun h => !Fl h) then A09 else Amb x) :=
 M0 (hsX x) (Aq Bh) (Ama x) (fun h => !Fl h) A09 (Amb x) hl (fun _ => rfl)
theorem Aw1 (x : SKTs kLw) (hl : ((csX x).length : Int) ≤ As .i64) : Amo x = some (bif (csX x).any (fun h => !Gf h) then A09 else Ame x) :=
 M0 (csX x) (Aq C7) (Amd x) (fun h => !Gf h) A09 (Ame x) hl (fun _ => rfl)
theorem Aw2 (x : SKTs kLw) (p : List (TCT Al)) (hp : (p.length : Int) ≤ As .i64) : Amp x p = some (bif apR x.2.1 x.2.2.1 p then Ae3 else A0a 2) := by
 have hp' : (p.length : Int) ≤ 9223372036854775807 := hp
 refine Vc p (Aq Al) (Ae2 x p) (fun i d => Oo x.2.1 x.2.2.1 d && !(p.take i).any (Z0 d)) (Amh x p) (A0a 2) Ae3 hp (fun _ => rfl) fun i hi => ?_
 have hii : 0 ≤ (i : Int) ∧ (i : Int) < (p.length : Int) := by omega
 unfold Amh Oo
 rw [Gg hii, Gg hii, Gg hii, Gg hii, Gg hii]
 cases inR p[i].1.1 p[i].2.1 (W64 (x.2.1 - p[i].2.1)) with
 | false => rfl
 | true =>
  cases inR p[i].1.2.1 p[i].2.1 (W64 (x.2.2.1 - p[i].2.1)) with
  | false => rfl
  | true =>
   have hy : B4h x p (i : Int) = some (bif (p.take i).any (Z0 p[i]) then Ae0 else Ae1 x p i) := by
    unfold B4h
    rw [show Int.toNat (i : Int) = i by omega]
    exact Avw x p i hi hp
   simp only [Bool.not_true, cond_false, Bool.true_and]
   rw [hy]
   cases (p.take i).any (Z0 p[i]) with
   | true => rfl
   | false =>
    show (Tree.leaf (Sum.inl (Ae2 x p (W64 ((i : Int) + 1)))) : TC3).run = _
    rw [Bv (n := (i : Int) + 1) (by omega) (by omega)]
    rfl
def Aw3 (l : TCT An) : Bool := inR (K3 l).2.1 1 8192 && (inR (K3 l).1.1 0 4194304 && inR (K3 l).1.2.1 0 4194304)
def okR (l : TCT An) : Bool := Aa3 l && ((Ao l).all Fl && (Aw3 l && (Aa4 l && ((C8 l).all Gf && apR l.2.1 l.2.2.1 (D1 l)))))
def Aw4 (l : TCT An) : Int := bif Lj l then 6 else bif okR l then 0 else 2
theorem A0b {l : TCT An} : (D1 l).length = 2 * (Ao l).length + 1 := by
 unfold D1
 rw [List.length_append, V2]
 rfl
theorem Bas {l : TCT An} (h12 : (Ao l).length ≤ 1000) : (Amq (((), ()), (Dx l, ()))).sat (fun y => y = ((bif apR l.2.1 l.2.2.1 (D1 l) then (0 : Int) else 2), ())) := by
 unfold Amq
 have e : Lr (((((), ()), (Dx l, ())) : A5h.T).2.1) = l := rfl
 have e2 : hsX (((((), ()), (Dx l, ())) : A5h.T).2.1) = Ao l := rfl
 have hy : Amp (((((), ()), (Dx l, ())) : A5h.T).2.1) (D1 l) = some (bif apR l.2.1 l.2.2.1 (D1 l) then Ae3 else A0a 2) := Aw2 (Dx l) (D1 l) (by rw [A0b]; simp only [As]; omega)
 rw [e, e2, decide_eq_true h12, hy]
 cases apR l.2.1 l.2.2.1 (D1 l) <;> exact rfl
theorem Kp {a b : Bool} {k : TEr} (h : k.sat (fun y => y = ((bif b then (0 : Int) else 2), ()))) : (er (!a) 2 k).sat (fun y => y = ((bif a && b then (0 : Int) else 2), ())) := by
 cases a with
 | true => exact h
 | false => exact rfl
theorem M1 {a b : Bool} {k : TEr} (h : k.sat (fun y => y = ((bif b then (0 : Int) else 2), ()))) : (er a 2 k).sat (fun y => y = ((bif !a && b then (0 : Int) else 2), ())) := by
 cases a with
 | true => exact rfl
 | false => exact h
theorem Bat {l : TCT An} (h12 : (Ao l).length ≤ 1000) (hc : ((C8 l).length : Int) ≤ As .i64) : (Amr (((), ()), (Dx l, ()))).sat (fun y => y = ((bif Aw3 l && (Aa4 l && ((C8 l).all Gf && apR l.2.1 l.2.2.1 (D1 l))) then (0 : Int) else 2), ())) := by
 unfold Amr Aw3 Aa4
 have e : Lr (((((), ()), (Dx l, ())) : A5h.T).2.1) = l := rfl
 have e2 : csX (((((), ()), (Dx l, ())) : A5h.T).2.1) = C8 l := rfl
 rw [e, e2]
 simp only [Bool.and_assoc]
 refine Kp (Kp (Kp (M1 (M1 (M1 (M1 (M1 ?_)))))))
 rw [Aw1 (Dx l) hc]
 have hq : (csX (Dx l)).any (fun h => !Gf h) = !(C8 l).all Gf := J8 Gf _
 rw [hq]
 cases (C8 l).all Gf with
 | false => exact rfl
 | true => exact Bas h12
theorem Aw5 {l : TCT An} (hs : (l.1.size : Int) ≤ As .i64) (hh : ((Ao l).length : Int) ≤ As .i64) (hc : ((C8 l).length : Int) ≤ As .i64) : (Avy l).sat (fun y => y = (Aw4 l, ())) := by
 unfold Avy Aw4
 rw [← Lk, ← Lk, Bool.or_assoc]
 show (er (Lj l) 6 _).sat _
 cases hm : Lj l with
 | true => exact rfl
 | false =>
  have h12 : (Ao l).length ≤ 1000 := by
   unfold Lj at hm
   simp only [Bool.or_eq_false_iff, decide_eq_false_iff_not] at hm
   omega
  rw [decide_eq_true hs]
  show (er (!Iu l.1) 2 _).sat (fun y => y = ((bif okR l then (0 : Int) else 2), ()))
  unfold okR Aa3
  simp only [Bool.and_assoc]
  refine Kp (Kp (Kp (Kp ?_)))
  rw [Aw0 (Dx l) hh]
  have hq : (hsX (Dx l)).any (fun h => !Fl h) = !(Ao l).all Fl := J8 Fl _
  rw [hq]
  cases (Ao l).all Fl with
  | false => exact rfl
  | true => exact Bat h12 hc
theorem Ic {x lo hi : Int} : inR x lo hi = true ↔ lo ≤ x ∧ x ≤ hi := by unfold inR; simp only [Bool.and_eq_true, decide_eq_true_eq]
theorem Ae4 {α : Type} {p : List α} {ok1 ok2 : Nat → α → Bool} (ins : α → Bool) (h : ∀ (i : Nat) (hi : i < p.length), (∀ o ∈ p.take i, ins o = true) → ok1 i p[i] = ok2 i p[i]) (h1 : ∀ i x, ok1 i x = true → ins x = true) :
  ∀ (k i : Nat), i + k = p.length → (∀ o ∈ p.take i, ins o = true) → Gy ok1 i (p.drop i) = Gy ok2 i (p.drop i)
 | 0, i, hk, _ => by
  rw [List.drop_eq_nil_of_le (by omega)]; rfl
 | k + 1, i, hk, hp => by
  have hi : i < p.length := by omega
  rw [List.drop_eq_getElem_cons hi]
  simp only [Gy]
  rw [← h i hi hp]
  cases ho : ok1 i p[i] with
  | false => rfl
  | true =>
   rw [Bool.true_and, Bool.true_and]
   refine Ae4 ins h h1 k (i + 1) (by omega) fun o hm => ?_
   rw [List.take_succ_eq_append_getElem hi, List.mem_append, List.mem_singleton] at hm
   rcases hm with hm | rfl
   ·exact hp o hm
   ·exact h1 i _ ho
theorem A5m {α : Type} {ok : Nat → α → Bool} : ∀ (l : List α) (i : Nat), Gy ok i l = true → ∀ x ∈ l, ∃ j, ok j x = true
 | y :: l, i, h, x, hx => by
  simp only [Gy, Bool.and_eq_true] at h
  rcases List.mem_cons.1 hx with rfl | hx
  ·exact ⟨i, h.1⟩
  ·exact A5m l (i + 1) h.2 x hx
structure On (d : TCT Al) : Prop where
 x : 0 ≤ d.1.1 ∧ d.1.1 ≤ 4194304
 y : 0 ≤ d.1.2.1 ∧ d.1.2.1 ≤ 4194304
 r : 1 ≤ d.2.1 ∧ d.2.1 ≤ 8192
theorem Aw6 {x y r w l : Int} (hw : 0 ≤ w ∧ w ≤ 4194304) (hl : 0 ≤ l ∧ l ≤ 4194304) (hr : 1 ≤ r ∧ r ≤ 8192) (h : (r ≤ x ∧ x ≤ W64 (w - r)) ∧ r ≤ y ∧ y ≤ W64 (l - r)) : (0 ≤ x ∧ x ≤ 4194304) ∧ 0 ≤ y ∧ y ≤ 4194304 := by
 rw [Bv (n := w - r) (by omega) (by omega), Bv (n := l - r) (by omega) (by omega)] at h
 omega
theorem Ams {w l : Int} (hw : 0 ≤ w ∧ w ≤ 4194304) (hl : 0 ≤ l ∧ l ≤ 4194304) {d : TCT Al} (hr : 1 ≤ d.2.1 ∧ d.2.1 ≤ 8192) (h : Oo w l d = true) : On d := by
 unfold Oo at h
 simp only [Bool.and_eq_true, Ic] at h
 obtain ⟨h1, h2⟩ := Aw6 hw hl hr h
 exact ⟨h1, h2, hr⟩
theorem Amt {x y r : Int} (hx : 0 ≤ x ∧ x ≤ 4194304) (hy : 0 ≤ y ∧ y ≤ 4194304) (hr : 1 ≤ r ∧ r ≤ 8192) : Rv x y r = 0 := by
 unfold Rv Iw fpt Az
 rw [decide_eq_true (show -4194304 ≤ x ∧ x ≤ 4194304 ∧ -4194304 ≤ y ∧ y ≤ 4194304 by omega), decide_eq_false (show ¬ r < 1 by omega), decide_eq_false (show ¬ 65536 < r by omega)]
 rfl
theorem Amu {a b : Int} (ha : 0 ≤ a ∧ a ≤ 4194304) (hb : 0 ≤ b ∧ b ≤ 4194304) : W64 (b - a) * W64 (b - a) = W64 (a - b) * W64 (a - b) := by
 rw [Bv (n := b - a) (by omega) (by omega), Bv (n := a - b) (by omega) (by omega)]
 grind
theorem B4l {d o : TCT Al} (hd : On d) (ho : On o) : touB d o = Z0 d o := by
 have e : sqD d o = sqR d o := by
  unfold sqD sqR
  rw [Amu hd.x ho.x, Amu hd.y ho.y]
 have c1 : cdE d = 0 := Amt hd.x hd.y hd.r
 have c2 : cdE o = 0 := Amt ho.x ho.y ho.r
 unfold touB Z0 Aib
 rw [c1, c2, e]
 show decide (Avp (sqR d o) (srD d o) < 0) = _
 unfold Avp
 by_cases h : sqR d o < srD d o
 ·rw [decide_eq_true h]; rfl
 ·rw [decide_eq_false h, cond_false]
  cases decide (sqR d o > srD d o) <;> rfl
theorem N9 {α : Type} {p q : α → Bool} : ∀ {l : List α}, (∀ x ∈ l, p x = q x) → l.any p = l.any q
 | [], _ => rfl
 | x :: l, h => by rw [List.any_cons, List.any_cons, h x (List.mem_cons_self ..), N9 fun y hy => h y (List.mem_cons_of_mem _ hy)]
theorem Bau {w l : Int} (hw : 0 ≤ w ∧ w ≤ 4194304) (hl : 0 ≤ l ∧ l ≤ 4194304) {p : List (TCT Al)} (hr : ∀ d ∈ p, 1 ≤ d.2.1 ∧ d.2.1 ≤ 8192) : apF w l p = apR w l p := by
 have key := Ae4 (p := p) (ok1 := fun i d => Oo w l d && !(p.take i).any (touB d)) (ok2 := fun i d => Oo w l d && !(p.take i).any (Z0 d)) (Oo w l)
  (fun i hi hp => by
   cases hi' : Oo w l p[i] with
   | false => rfl
   | true =>
    have hd := Ams hw hl (hr _ (List.getElem_mem hi)) hi'
    rw [N9 fun o ho => B4l hd (Ams hw hl (hr o (List.mem_of_mem_take ho)) (hp o ho))])
  (fun i x h => by simp only [Bool.and_eq_true] at h; exact h.1) p.length 0 (by omega) (fun o ho => by rw [List.take_zero] at ho; cases ho)
 rw [List.drop_zero] at key
 exact key
theorem Bg7 {h : TCT Bh} {d : TCT Al} (hd : d ∈ w2 h) : d.2.1 = h.2.2.2.1 := by
 unfold w2 at hd
 cases hb : h.2.2.2.2.1 with
 | true =>
  rw [hb] at hd
  have hd : d ∈ [Nz h.1 (W64 (h.2.1 - dW h)) h.2.2.2.1, Nz h.1 (W64 (h.2.1 + dW h)) h.2.2.2.1] := hd
  rcases List.mem_cons.1 hd with rfl | hd
  ·rfl
  ·rw [List.mem_singleton] at hd; subst hd; rfl
 | false =>
  rw [hb] at hd
  have hd : d ∈ [Nz (W64 (h.1 - dW h)) h.2.1 h.2.2.2.1, Nz (W64 (h.1 + dW h)) h.2.1 h.2.2.2.1] := hd
  rcases List.mem_cons.1 hd with rfl | hd
  ·rfl
  ·rw [List.mem_singleton] at hd; subst hd; rfl
theorem Aw7 {l : TCT An} (hh : (Ao l).all Fl = true) (hp : inR (K3 l).2.1 1 8192 = true) : ∀ d ∈ D1 l, 1 ≤ d.2.1 ∧ d.2.1 ≤ 8192 := by
 intro d hd
 unfold D1 at hd
 rw [List.mem_append, List.mem_singleton, List.mem_flatMap] at hd
 rcases hd with ⟨h, hm, hd⟩ | rfl
 ·have := List.all_eq_true.1 hh h hm
  unfold Fl at this
  simp only [Bool.and_eq_true, Ic] at this
  rw [Bg7 hd]
  exact this.2.2.2.2
 ·exact Ic.1 hp
theorem Amv (l : TCT An) : Aw4 l = Cn l := by
 unfold Aw4 Cn
 congr 2
 unfold okR okL
 cases hd : Aa3 l with
 | false => rfl
 | true =>
  have hd' := hd
  unfold Aa3 at hd'
  simp only [Bool.and_eq_true, Ic] at hd'
  obtain ⟨_, ⟨w1, w2'⟩, ⟨l1, l2⟩, _⟩ := hd'
  have hw : 0 ≤ l.2.1 ∧ l.2.1 ≤ 4194304 := ⟨Int.le_trans (by decide) w1, w2'⟩
  have hl : 0 ≤ l.2.2.1 ∧ l.2.2.1 ≤ 4194304 := ⟨Int.le_trans (by decide) l1, l2⟩
  unfold Aw3
  cases hh : (Ao l).all Fl with
  | false => cases inR (K3 l).2.1 1 8192 <;> cases Aa4 l <;> rfl
  | true =>
   cases hp : inR (K3 l).2.1 1 8192 with
   | false => rfl
   | true =>
    have hr := Aw7 hh hp
    rw [← Bau hw hl hr]
    cases ha : apF l.2.1 l.2.2.1 (D1 l) with
    | false => simp
    | true =>
     obtain ⟨j, hj⟩ := A5m (D1 l) 0 ha (K3 l) (by unfold D1; simp)
     simp only [Bool.and_eq_true] at hj
     have on := Ams hw hl (Ic.1 hp) hj.1
     have e1 : inR (K3 l).1.1 0 4194304 = true := Ic.2 on.x
     have e2 : inR (K3 l).1.2.1 0 4194304 = true := Ic.2 on.y
     rw [e1, e2]
     simp
theorem Aa8 : A7 Tryz.prog 42 Vb := B6 Avx 7 (fun x => Avy x.1) Avz fun x hok hw => by
 rw [← Amv]
 exact Aw5 (of_decide_eq_true hok) (Es hw.1.2.2.2.2.1) (Es hw.1.2.2.2.2.2.2.2.2.1)
theorem is_aO : FnIs Tryz.prog (105, Tryz.f105) := ⟨Tryz.func105, by kernel_rfl, by kernel_rfl⟩
theorem is_aP : FnIs Tryz.prog (125, Tryz.f125) := ⟨Tryz.func125, by kernel_rfl, by kernel_rfl⟩
def B4m : List (Nat × PureT) := [(75, Vb), (140, N7), (42, Vb), (92, N7)]
theorem B4n : By Tryz.prog B4m := A0 is_aL.plain A5e (A0 is_av.plain Adr (A0 is_aM.plain Aa8 (A0 is_ay.plain A58 Aa)))
def G1 (l : TCT An) : List (TCT Al) := bif Cn l == 0 then D1 l else []
abbrev U3 : PureT := B9 [An] [.sl Al, cI] (fun x => decide ((x.1.1.size : Int) ≤ As .i64)) (fun x => (G1 x.1, Cn x.1, ()))
abbrev TPs := Tree (TCTs [.sl Al, cI])
def szT {β : Type} (l : TCT An) (k : Tree β) : Tree β := bif decide ((l.1.size : Int) ≤ As .i64) then k else .fail
theorem Bz {β : Type} {l : TCT An} {k : Tree β} (h : (l.1.size : Int) ≤ As .i64) : szT l k = k := by unfold szT; rw [decide_eq_true h]; rfl
def A5n (l : TCT An) : TPs := bif decide ((Ao l).length ≤ 1000) then .leaf (D1 l, 0, ()) else .fail
def B4o (l : TCT An) : TPs := szT l (bif Cn l != 0 then .leaf ([], Cn l, ()) else A5n l)
def Amw (l : TCT An) : TPs := szT l (bif Cn l != 0 then szT l (.leaf ([], Cn l, ())) else A5n l)
theorem A5o {l : TCT An} (h : Cn l = 0) : (Ao l).length ≤ 12 ∧ 1 ≤ (Ao l).length := by
 unfold Cn at h
 cases hm : Lj l with
 | true => rw [hm] at h; cases h
 | false =>
  unfold Lj at hm
  simp only [Bool.or_eq_false_iff, decide_eq_false_iff_not] at hm
  omega
theorem Amx {l : TCT An} (h : Cn l = 0) : (A5n l).sat (fun y => y = (G1 l, Cn l, ())) := by
 have := A5o h
 unfold A5n G1
 rw [decide_eq_true (show (Ao l).length ≤ 1000 by omega), h]
 exact rfl
theorem B1x {l : TCT An} : (bif Cn l != 0 then .leaf ([], Cn l, ()) else A5n l : TPs).sat (fun y => y = (G1 l, Cn l, ())) := by
 cases h : Cn l == 0 with
 | true =>
  have h' : Cn l = 0 := by simpa using h
  rw [show (Cn l != 0) = false by simp [h']]
  exact Amx h'
 | false =>
  rw [show (Cn l != 0) = true by simpa using h]
  unfold G1
  rw [h]
  exact rfl
theorem Aw8 : A7 Tryz.prog 105 U3 := B6 (Ad Ab B4n (fns_cons is_aO A2)) 7 (fun x => B4o x.1) (fun x => by kernel_rfl) fun x hok _ => by
 show (B4o x.1).sat _
 unfold B4o
 rw [Bz (of_decide_eq_true hok)]
 exact B1x
theorem Amy : A7 Tryz.prog 125 U3 := B6 (Ad Ab B4n (fns_cons is_aP A2)) 7 (fun x => Amw x.1) (fun x => by kernel_rfl) fun x hok _ => by
 show (Amw x.1).sat _
 unfold Amw
 rw [Bz (of_decide_eq_true hok), Bz (of_decide_eq_true hok)]
 exact B1x
theorem is_aQ : FnIs Tryz.prog (160, Tryz.f160) := ⟨Tryz.func160, by kernel_rfl, by kernel_rfl⟩
theorem is_aR : FnIs Tryz.prog (183, Tryz.f183) := ⟨Tryz.func183, by kernel_rfl, by kernel_rfl⟩
theorem is_aS : FnIs Tryz.prog (184, Tryz.f184) := ⟨Tryz.func184, by kernel_rfl, by kernel_rfl⟩
theorem is_aT : FnIs Tryz.prog (71, Tryz.f71) := ⟨Tryz.func71, by kernel_rfl, by kernel_rfl⟩
theorem is_aU : FnIs Tryz.prog (129, Tryz.f129) := ⟨Tryz.func129, by kernel_rfl, by kernel_rfl⟩
theorem is_aV : FnIs Tryz.prog (169, Tryz.f169) := ⟨Tryz.func169, by kernel_rfl, by kernel_rfl⟩
theorem is_aW : FnIs Tryz.prog (74, Tryz.f74) := ⟨Tryz.func74, by kernel_rfl, by kernel_rfl⟩
def onB (l : TCT An) (p : TCT cPt) : Bool := inR p.1 0 l.2.1 && inR p.2.1 0 l.2.2.1
def Sp (l : TCT An) (p : TCT cPt) : Int := W64 (W64 (min (W64 (Int.tdiv (W64 (p.2.1 * nyL l)) l.2.2.1)) (W64 (nyL l - 1)) * nxL l) + min (W64 (Int.tdiv (W64 (p.1 * nxL l)) l.2.1)) (W64 (nxL l - 1)))
def Aw9 (c : TCT C7) : TCT C7 := (c.1, c.2.1, c.2.2.1, ())
def zCe : TCT C7 := (0, 0, 0, ())
def Pv (l : TCT An) (p : TCT cPt) : Int := bif Cn l != 0 then Cn l else bif fpt p.1 p.2.1 then 0 else 2
def Gh (l : TCT An) (p : TCT cPt) : Int := bif Pv l p != 0 then Pv l p else bif onB l p then 0 else 5
def O7 (l : TCT An) (p : TCT cPt) : TCT C7 := bif Gh l p == 0 then Aw9 (At (C8 l) (Int.toNat (Sp l p)) (Aq C7)) else zCe
abbrev Pw : PureT := B9 [An, cPt] [C7, cI] (fun x => decide ((x.1.1.size : Int) ≤ As .i64)) (fun x => (((O7 x.1 x.2.1).1, (O7 x.1 x.2.1).2.1, (O7 x.1 x.2.1).2.2.1, ()), Gh x.1 x.2.1, ()))
abbrev TCe := Tree (TCTs [C7, cI])
def Oq (e : Int) : TCe := .leaf (zCe, e, ())
def Amz (l : TCT An) (p : TCT cPt) : TCe := bif l.2.1 != 0 then bif l.2.2.1 != 0 then bif decide (0 ≤ Sp l p ∧ Sp l p < ((C8 l).length : Int)) then .leaf (Aw9 (At (C8 l) (Int.toNat (Sp l p)) (Aq C7)), 0, ()) else .fail else .fail else .fail
def Ve (l : TCT An) (p : TCT cPt) : TCe := bif inR p.1 0 l.2.1 then bif !inR p.2.1 0 l.2.2.1 then Oq 5 else Amz l p else Oq 5
def Awa (l : TCT An) (p : TCT cPt) : TCe := szT l (bif Cn l != 0 then bif Cn l != 0 then Oq (Cn l) else Ve l p else bif Lu p.1 p.2.1 != 0 then Oq 2 else Ve l p)
theorem Awb (x : TCTs [An, cPt]) : C4 (Al1 2 Tryz.prog ((50, Nh) :: (132, Lz) :: B4m) [(160, Tryz.f160), (183, Tryz.f183), (184, Tryz.f184)]) 7 (.fn 160) (Ce [An, cPt] x) Be 0 (Ft Tryz.prog [C7, cI]) = Awa x.1 x.2.1 := by kernel_rfl
theorem Ae5 {a b c d : Int} (h0 : 0 ≤ a) (h1 : a ≤ c) (h2 : 0 ≤ b) (h3 : b ≤ d) : a * b ≤ c * d := Int.mul_le_mul h1 h3 h2 (by omega)
theorem A5p {y ny l : Int} (hl : 1 ≤ l ∧ l ≤ 4194304) (hy : 0 ≤ y ∧ y ≤ l) (hn : 1 ≤ ny ∧ ny ≤ 16) : 0 ≤ min (W64 (Int.tdiv (W64 (y * ny)) l)) (W64 (ny - 1)) ∧ min (W64 (Int.tdiv (W64 (y * ny)) l)) (W64 (ny - 1)) ≤ ny - 1 := by
 have h1 : 0 ≤ y * ny := Int.mul_nonneg hy.1 (by omega)
 have h2 : y * ny ≤ 4194304 * 16 := Ae5 hy.1 (by omega) (by omega) hn.2
 rw [Bv (n := y * ny) (by omega) (by omega), Int.tdiv_eq_ediv_of_nonneg h1]
 have h3 := Int.ediv_nonneg h1 (show 0 ≤ l by omega)
 have h4 := Int.ediv_le_self l h1
 rw [Bv (n := y * ny / l) (by omega) (by omega), Bv (n := ny - 1) (by omega) (by omega)]
 omega
theorem An0 {i k nx ny : Int} (hx : 1 ≤ nx ∧ nx ≤ 16) (hy : 1 ≤ ny ∧ ny ≤ 16) (hi : 0 ≤ i ∧ i ≤ nx - 1) (hk : 0 ≤ k ∧ k ≤ ny - 1) : 0 ≤ W64 (W64 (k * nx) + i) ∧ W64 (W64 (k * nx) + i) < W64 (nx * ny) := by
 have h1 : 0 ≤ k * nx := Int.mul_nonneg hk.1 (by omega)
 have h2 : k * nx ≤ (ny - 1) * nx := Int.mul_le_mul_of_nonneg_right hk.2 (by omega)
 have h3 : nx * ny ≤ 16 * 16 := Ae5 (by omega) hx.2 (by omega) hy.2
 have h4 : (ny - 1) * nx = nx * ny - nx := by grind
 rw [Bv (n := k * nx) (by omega) (by omega), Bv (n := k * nx + i) (by omega) (by omega), Bv (n := nx * ny) (by omega) (by omega)]
 omega
structure LawOk (l : TCT An) : Prop where
 w : 65536 ≤ l.2.1 ∧ l.2.1 ≤ 4194304
 lg : 65536 ≤ l.2.2.1 ∧ l.2.2.1 ≤ 4194304
 nx : 1 ≤ nxL l ∧ nxL l ≤ 16
 ny : 1 ≤ nyL l ∧ nyL l ≤ 16
 n : ((C8 l).length : Int) = W64 (nxL l * nyL l)
 hs : (Ao l).all Fl = true
 cs : (C8 l).all Gf = true
 ap : apF l.2.1 l.2.2.1 (D1 l) = true
 hn : 1 ≤ (Ao l).length ∧ (Ao l).length ≤ 12
theorem An1 {l : TCT An} (h : Cn l = 0) : LawOk l := by
 have hn := A5o h
 unfold Cn at h
 cases hm : Lj l with
 | true => rw [hm] at h; cases h
 | false =>
  rw [hm, cond_false] at h
  cases ho : okL l with
  | false => rw [ho] at h; cases h
  | true =>
   unfold okL Aa3 Aa4 at ho
   simp only [Bool.and_eq_true, Ic, Bool.not_eq_true', decide_eq_false_iff_not, bne_eq_false_iff_eq] at ho
   obtain ⟨⟨_, hw, hl, _⟩, hp, ⟨n1, n2, n3, n4, n5⟩, h1, h2, h3⟩ := ho
   exact ⟨hw, hl, ⟨Int.not_lt.1 n1, Int.not_lt.1 n2⟩, ⟨Int.not_lt.1 n3, Int.not_lt.1 n4⟩, n5, h1, h2, h3, hn.2, hn.1⟩
theorem An2 {l : TCT An} {p : TCT cPt} (h : Cn l = 0) (ho : onB l p = true) : Amz l p = .leaf (Aw9 (At (C8 l) (Int.toNat (Sp l p)) (Aq C7)), 0, ()) := by
 have k := An1 h
 unfold onB at ho
 simp only [Bool.and_eq_true, Ic] at ho
 have hw : 1 ≤ l.2.1 ∧ l.2.1 ≤ 4194304 := ⟨Int.le_trans (by decide) k.w.1, k.w.2⟩
 have hl : 1 ≤ l.2.2.1 ∧ l.2.2.1 ≤ 4194304 := ⟨Int.le_trans (by decide) k.lg.1, k.lg.2⟩
 have hc := An0 k.nx k.ny (A5p hw ho.1 k.nx) (A5p hl ho.2 k.ny)
 rw [← k.n] at hc
 have e1 : (l.2.1 != 0) = true := by
  rw [bne_iff_ne]; intro e; rw [e] at hw; exact absurd hw.1 (by decide)
 have e2 : (l.2.2.1 != 0) = true := by
  rw [bne_iff_ne]; intro e; rw [e] at hl; exact absurd hl.1 (by decide)
 unfold Amz
 rw [e1, e2, decide_eq_true (show 0 ≤ Sp l p ∧ Sp l p < ((C8 l).length : Int) from hc)]
 rfl
theorem An3 {l : TCT An} {p : TCT cPt} (h : Cn l = 0) : Ve l p = bif onB l p then .leaf (Aw9 (At (C8 l) (Int.toNat (Sp l p)) (Aq C7)), 0, ()) else Oq 5 := by
 cases ho : onB l p with
 | true =>
  have := An2 h ho
  unfold Ve
  unfold onB at ho
  simp only [Bool.and_eq_true] at ho
  rw [ho.1, ho.2, this]
  rfl
 | false =>
  unfold Ve
  unfold onB at ho
  cases h1 : inR p.1 0 l.2.1 with
  | false => rfl
  | true =>
   rw [h1, Bool.true_and] at ho
   rw [ho]
   rfl
def Aa9 (l : TCT An) (p : TCT cPt) : TCTs [C7, cI] := (((O7 l p).1, (O7 l p).2.1, (O7 l p).2.2.1, ()), Gh l p, ())
theorem An4 {l : TCT An} {p : TCT cPt} : (bif Pv l p != 0 then Oq (Pv l p) else Ve l p : TCe).sat (fun y => y = Aa9 l p) := by
 unfold Aa9 O7 Gh
 cases h1 : Pv l p != 0 with
 | true =>
  have hne : (Pv l p == 0) = false := by
   rw [bne_iff_ne] at h1
   exact beq_eq_false_iff_ne.2 h1
  simp only [cond_true]
  rw [hne]
  exact rfl
 | false =>
  have hl : Cn l = 0 := by
   unfold Pv at h1
   cases h2 : Cn l != 0 with
   | true => rw [h2, cond_true] at h1; rw [h2] at h1; cases h1
   | false => exact bne_eq_false_iff_eq.1 h2
  simp only [cond_false]
  rw [An3 hl]
  cases onB l p <;> exact rfl
theorem Awc (x y : Int) : (Lu x y != 0) = !fpt x y := by unfold Lu; cases fpt x y <;> rfl
def Bg8 : List (Nat × PureT) := (50, Nh) :: (132, Lz) :: B4m
theorem Bg9 : By Tryz.prog Bg8 := A0 is_am.plain A3f (A0 is_ab.plain Km B4n)
theorem Awd {l : TCT An} {p : TCT cPt} (hs : (l.1.size : Int) ≤ As .i64) : (Awa l p).sat (fun y => y = Aa9 l p) := by
 have key := An4 (l := l) (p := p)
 unfold Awa
 rw [Bz hs, Awc]
 unfold Pv at key
 cases h : Cn l != 0 with
 | true =>
  rw [h] at key
  simp only [cond_true] at key ⊢
  rw [h] at key
  exact key
 | false =>
  rw [h] at key
  simp only [cond_false] at key ⊢
  cases hf : fpt p.1 p.2.1 with
  | true => rw [hf] at key; exact key
  | false => rw [hf] at key; exact key
theorem An5 : A7 Tryz.prog 160 Pw := B6 (Uy (u := 2) Ab Bg9 (fns_cons is_aQ (fns_cons is_aR (fns_cons is_aS A2)))) 7 (fun x => Awa x.1 x.2.1) Awb fun x hok _ => Awd (of_decide_eq_true hok)
abbrev B1y : PureT := B9 [An, cPt] [cI] (fun x => decide ((x.1.1.size : Int) ≤ As .i64)) (fun x => (Pv x.1 x.2.1, ()))
def Bga : List (Nat × PureT) := [(42, Vb), (89, Lz)]
theorem Bgb : By Tryz.prog Bga := A0 is_aM.plain Aa8 (A0 is_ac.plain K2 Aa)
def An6 (l : TCT An) (p : TCT cPt) : TEr := szT l (bif Cn l != 0 then szT l (.leaf (Cn l, ())) else bif inR p.1 (-4194304) 4194304 then bif !inR p.2.1 (-4194304) 4194304 then .leaf (2, ()) else .leaf (0, ()) else .leaf (2, ()))
theorem B4p (x y : Int) : fpt x y = (inR x (-4194304) 4194304 && inR y (-4194304) 4194304) := by
 unfold fpt inR
 rw [Bool.eq_iff_iff]
 simp only [Bool.and_eq_true, decide_eq_true_eq]
 omega
theorem An7 {l : TCT An} {p : TCT cPt} (hs : (l.1.size : Int) ≤ As .i64) : (An6 l p).sat (fun y => y = (Pv l p, ())) := by
 unfold An6 Pv
 rw [Bz hs, Bz hs, B4p]
 cases Cn l != 0 with
 | true => exact rfl
 | false => cases inR p.1 (-4194304) 4194304 <;> cases inR p.2.1 (-4194304) 4194304 <;> exact rfl
theorem Bav : A7 Tryz.prog 129 B1y := B6 (Ad Ab Bgb (fns_cons is_aU (fns_cons is_aV A2))) 7 (fun x => An6 x.1 x.2.1) (fun x => by kernel_rfl) fun x hok _ => An7 (of_decide_eq_true hok)
def Baw : List (Nat × PureT) := [(129, B1y), (89, Lz)]
theorem Bax : By Tryz.prog Baw := A0 is_aU.plain Bav (A0 is_ac.plain K2 Aa)
def An8 (l : TCT An) (p : TCT cPt) : TCe := szT l (bif Pv l p != 0 then szT l (Oq (Pv l p)) else Ve l p)
theorem Aic : A7 Tryz.prog 71 Pw := B6 (Ad Ab Bax (fns_cons is_aT (fns_cons is_aW A2))) 7 (fun x => An8 x.1 x.2.1) (fun x => by kernel_rfl) fun x hok _ => by
 show (An8 x.1 x.2.1).sat _
 unfold An8
 rw [Bz (of_decide_eq_true hok), Bz (of_decide_eq_true hok)]
 exact An4
theorem is_aX : FnIs Tryz.prog (30, Tryz.f30) := ⟨Tryz.func30, by kernel_rfl, by kernel_rfl⟩
theorem is_aY : FnIs Tryz.prog (31, Tryz.f31) := ⟨Tryz.func31, by kernel_rfl, by kernel_rfl⟩
def A3 (g : TCT cGr) : List (TCT A4) := g.2.1
def okG (g : TCT cGr) : Bool := (A3 g).all Jr && Hr g.2.2.1.1 g.2.2.1.2.1
def groE (g : TCT cGr) : Int := bif Cn g.1 != 0 then Cn g.1 else bif decide (((A3 g).length : Int) < 1) || decide (((A3 g).length : Int) > 8) then 6 else bif okG g then 0 else 2
abbrev Awe : PureT := B9 [cGr] [cI] (fun x => decide ((x.1.1.1.size : Int) ≤ As .i64)) (fun x => (groE x.1, ()))
def plG : List (Nat × PureT) := [(75, Vb), (79, E9), (76, A52), (42, Vb), (81, E9), (80, Jc)]
theorem puG : By Tryz.prog plG := A0 is_aL.plain A5e (A0 is_CheckBounce.plain Jy (A0 is_as.plain Alh (A0 is_aM.plain Aa8 (A0 is_rCheckBounce.plain Me (A0 is_rCheckBall.plain A3k Aa)))))
def An9 (g : TCT cGr) : TEr := bif okE (Hr g.2.2.1.1 g.2.2.1.2.1) != 0 then .leaf (2, ()) else .leaf (0, ())
def T_G (g : TCT cGr) : TEr := szT g.1 (bif Cn g.1 != 0 then .leaf (Cn g.1, ()) else er (decide (((A3 g).length : Int) < 1)) 6 (er (decide (((A3 g).length : Int) > 8)) 6 (er ((A3 g).any (Dl ())) 2 (An9 g))))
theorem B4q (x : TCTs [cGr]) : C4 (ctx Tryz.prog plG [(30, Tryz.f30)]) 7 (.fn 30) (Ce [cGr] x) Be 0 (Ft Tryz.prog [cI]) = T_G x.1 := by kernel_rfl
theorem B4r {g : TCT cGr} (hs : (g.1.1.size : Int) ≤ As .i64) : (T_G g).sat (fun y => y = (groE g, ())) := by
 unfold T_G groE okG An9
 have hq : (A3 g).any (Dl ()) = !(A3 g).all Jr := J8 Jr _
 rw [Bz hs, hq, V1, ← Lk]
 cases Cn g.1 != 0 with
 | true => exact rfl
 | false =>
  simp only [cond_false]
  cases decide (((A3 g).length : Int) < 1) || decide (((A3 g).length : Int) > 8) with
  | true => exact rfl
  | false => cases (A3 g).all Jr <;> cases Hr g.2.2.1.1 g.2.2.1.2.1 <;> exact rfl
theorem Bgc : A7 Tryz.prog 30 Awe := B6 (Ad Ab puG (fns_cons is_aX A2)) 7 (fun x => T_G x.1) B4q fun x hok _ => B4r (of_decide_eq_true hok)
abbrev kGr : List SK := [.d .s, .d cI, .d cI, .d cI, .d (.sl Bh), .d cI, .d cI, .d cI, .d cI, .d cI, .d (.sl C7), .d (.sl A4), .d cI, .d cI]
def Ot (x : SKTs kGr) : TCT cGr := ((x.1, x.2.1, x.2.2.1, x.2.2.2.1, x.2.2.2.2.1, ((x.2.2.2.2.2.1, x.2.2.2.2.2.2.1, ()), x.2.2.2.2.2.2.2.1, ()), x.2.2.2.2.2.2.2.2.1, x.2.2.2.2.2.2.2.2.2.1, x.2.2.2.2.2.2.2.2.2.2.1, ()), x.2.2.2.2.2.2.2.2.2.2.2.1, (x.2.2.2.2.2.2.2.2.2.2.2.2.1, x.2.2.2.2.2.2.2.2.2.2.2.2.2.1, ()), ())
def Ek (g : TCT cGr) : SKTs kGr := (g.1.1, g.1.2.1, g.1.2.2.1, g.1.2.2.2.1, g.1.2.2.2.2.1, g.1.2.2.2.2.2.1.1.1, g.1.2.2.2.2.2.1.1.2.1, g.1.2.2.2.2.2.1.2.1, g.1.2.2.2.2.2.2.1, g.1.2.2.2.2.2.2.2.1, g.1.2.2.2.2.2.2.2.2.1, g.2.1, g.2.2.1.1, g.2.2.1.2.1, ())
noncomputable def Bay : Code := (A8 (bodyOf Tryz.f31)).getD 0 .skip
def Aaa : Lay := { keys := [1, 3], ks := [.p 0 0 0 0, .d cI], bs := [(0, 34, kGr)], n := 39, nx := 1000, marks := [] }
def Bgd : Lay := { keys := [1], ks := [.p 0 0 0 0], bs := [(0, 34, kGr)], n := 39, nx := 1000, marks := [] }
def Baz : Lay := { keys := [2], ks := [.d cI], bs := [], n := 39, nx := 1000, marks := [] }
def Aab : XE → Lay := fun e => match e with | .ret => Baz | _ => Bgd
def Ana (x : SKTs kGr) (i : Int) : Aaa.T := (((), i, ()), (x, ()))
def Anb : A1 Aab := ⟨.ret, ((2, ()), ())⟩
def Anc (x : SKTs kGr) : A1 Aab := ⟨.exit 0, (((), ()), (x, ()))⟩
def blX (x : SKTs kGr) : List (TCT A4) := x.2.2.2.2.2.2.2.2.2.2.2.1
def Ae6 (b : TCT A4) : Bool := okE (K8 b.1 b.2.1) != 0
def Ae7 (g : Aaa.T) : Tree (Aaa.T ⊕ A1 Aab) := bif decide (g.1.2.1 < ((blX g.2.1).length : Int)) then bif decide (0 ≤ g.1.2.1 ∧ g.1.2.1 < ((blX g.2.1).length : Int)) then
 bif Ae6 (At (blX g.2.1) (Int.toNat g.1.2.1) (Aq A4)) then .leaf (.inr Anb) else .leaf (.inl (Ana g.2.1 (W64 (g.1.2.1 + 1)))) else .fail else .leaf (.inr (Anc g.2.1))
def And (g : Aaa.T) : Nat := (blX g.2.1).length + 1
theorem Bge : Ae Tryz.prog 31 Bay (A9 Aaa Aab (Bu [.ret, .exit 0] Ae7 And)) := Aw (Ad Ab puG A2) 7 _ Aaa Aab (fun e => by cases e <;> exact Nat.le_refl _) [.ret, .exit 0] Ae7 And (fun g => by kernel_rfl)
noncomputable def Bb0 : Ctx := Gu Tryz.prog plG [(31, Tryz.f31)] [((31, 6), A9 Aaa Aab (Bu [.ret, .exit 0] Ae7 And))]
theorem Awf : CtxOk Bb0 := Bx Ab puG (fns_cons is_aY A2) (Bg (by kernel_rfl) (by kernel_rfl) Bge)
def Ane (x : SKTs kGr) : Option (A1 Aab) := iter Ae7 ((blX x).length + 1) (Ana x 0)
def Awg (g : TCT cGr) : TEr := szT g.1 (bif Cn g.1 != 0 then szT g.1 (.leaf (Cn g.1, ())) else er (decide (((A3 g).length : Int) < 1)) 6 (er (decide (((A3 g).length : Int) > 8)) 6 (
 bif isE .ret (Ane (Ek g)) then .leaf ((B7 .ret (Ane (Ek g))).1.1, ()) else bif isE (.exit 0) (Ane (Ek g)) then An9 (Ot (B7 (.exit 0) (Ane (Ek g))).2.1) else .fail)))
theorem Awh (x : TCTs [cGr]) : C4 Bb0 7 (.fn 31) (Ce [cGr] x) Be 0 (Ft Tryz.prog [cI]) = Awg x.1 := by kernel_rfl
theorem Awi {g : TCT cGr} (hs : (g.1.1.size : Int) ≤ As .i64) (hb : ((A3 g).length : Int) ≤ As .i64) : (Awg g).sat (fun y => y = (groE g, ())) := by
 have hy : Ane (Ek g) = some (bif (blX (Ek g)).any Ae6 then Anb else Anc (Ek g)) := M0 (blX (Ek g)) (Aq A4) (Ana (Ek g)) Ae6 Anb (Anc (Ek g)) hb (fun _ => rfl)
 have hq : (blX (Ek g)).any Ae6 = !(A3 g).all Jr := by
  rw [← J8 Jr]
  exact N9 fun b _ => V1 _
 rw [hq] at hy
 unfold Awg groE okG
 rw [Bz hs, Bz hs, hy, ← Lk]
 cases Cn g.1 != 0 with
 | true => exact rfl
 | false =>
  simp only [cond_false]
  cases decide (((A3 g).length : Int) < 1) || decide (((A3 g).length : Int) > 8) with
  | true => exact rfl
  | false =>
   cases (A3 g).all Jr with
   | false => exact rfl
   | true =>
    show (An9 g).sat _
    unfold An9
    rw [V1]
    cases Hr g.2.2.1.1 g.2.2.1.2.1 <;> exact rfl
theorem Bb1 : A7 Tryz.prog 31 Awe := B6 Awf 7 (fun x => Awg x.1) Awh fun x hok hw => Awi (of_decide_eq_true hok) (Es hw.1.2.1)
theorem is_aZ : FnIs Tryz.prog (73, Tryz.f73) := ⟨Tryz.func73, by kernel_rfl, by kernel_rfl⟩
abbrev A0c : PureT := B9 [An, cPt] [.b] (fun _ => true) (fun x => (onB x.1 x.2.1, ()))
def Bb2 (l : TCT An) (p : TCT cPt) : TBo := Pm (decide (0 ≤ p.1)) (Pm (decide (p.1 ≤ l.2.1)) (Pm (decide (0 ≤ p.2.1)) (.leaf (decide (p.2.1 ≤ l.2.2.1), ()))))
theorem B4s (l : TCT An) (p : TCT cPt) : onB l p = (decide (0 ≤ p.1) && (decide (p.1 ≤ l.2.1) && (decide (0 ≤ p.2.1) && decide (p.2.1 ≤ l.2.2.1)))) := by
 unfold onB inR
 simp only [Bool.and_assoc]
theorem B1z : A7 Tryz.prog 73 A0c := B6 (Ad Ab Aa (fns_cons is_aZ A2)) 4 (fun x => Bb2 x.1 x.2.1) (fun x => by kernel_rfl) fun x _ _ => by
 show (Bb2 x.1 x.2.1).sat (fun y => y = (onB x.1 x.2.1, ()))
 rw [B4s]
 exact Fv (Fv (Fv (Zw _)))
theorem B20 : A7 Tryz.prog 74 A0c := B6 (Ad Ab (A0 is_ac.plain K2 Aa) (fns_cons is_aW A2)) 4 (fun x => Pm (inR x.2.1.1 0 x.1.2.1) (.leaf (inR x.2.1.2.1 0 x.1.2.2.1, ()))) (fun x => by kernel_rfl) fun x _ _ => Fv (Zw _)
theorem is_a0 : FnIs Tryz.prog (32, Tryz.f32) := ⟨Tryz.func32, by kernel_rfl, by kernel_rfl⟩
theorem is_a1 : FnIs Tryz.prog (26, Tryz.f26) := ⟨Tryz.func26, by kernel_rfl, by kernel_rfl⟩
theorem is_a2 : FnIs Tryz.prog (70, Tryz.f70) := ⟨Tryz.func70, by kernel_rfl, by kernel_rfl⟩
abbrev kSt : List SK := [.d (.sl Aj), .d (.sl .b), .d cI, .d cI, .d cI]
abbrev bsS : List BK := [(0, 34, kGr), (1, 38, kSt)]
def Awj : List (Nat × PureT) := [(30, Awe), (82, F0), (31, Awe), (128, F0), (73, A0c), (74, A0c)]
theorem Aid : By Tryz.prog Awj := A0 is_aX.plain Bgc (A0 is_CheckMotion.plain Oc (A0 is_aY.plain Bb1 (A0 is_rCheckMotion.plain Mf (A0 is_aZ.plain B1z (A0 is_aW.plain B20 Aa)))))
def inN {β : Type} (n : Nat) (i : Int) (k : Tree β) : Tree β := bif decide (0 ≤ i ∧ i < (n : Int)) then k else .fail
theorem Ci {β : Type} {n : Nat} {i : Int} {k : Tree β} (h : 0 ≤ i ∧ i < (n : Int)) : inN n i k = k := by unfold inN; rw [decide_eq_true h]; rfl
def Px (b : TCT A4) (m : TCT Aj) : Bool := Qd b.1 b.2.1 m.1.1 m.1.2.1 m.2.1.1 m.2.1.2.1 m.2.2.1.1 m.2.2.1.2.1
def atM (m : TCT Aj) : TCT cPt := (m.1.1, m.1.2.1, ())
def Aac {β : Type} (no : Nat) (i : Int) (o : Bool) (m : TCT Aj) (rt nx : Tree β) : Tree β := inN no i (bif o then bif !(m.2.1.1 == 0 && (m.2.1.2.1 == 0 && true)) then rt else nx else nx)
def Vf {β : Type} (nb no : Nat) (i : Int) (l : TCT An) (b : TCT A4) (o : Bool) (m : TCT Aj) (rt nx : Tree β) : Tree β :=
 inN nb i (bif okE (Px b m) != 0 then rt else inN no i (bif !o then bif !onB l (atM m) then rt else Aac no i o m rt nx else Aac no i o m rt nx))
def lwG (x : SKTs kGr) : TCT An := (Ot x).1
noncomputable def Bb3 : Code := (A8 (bodyOf Tryz.f32)).getD 0 .skip
def A5q : Lay := { keys := [2, 3, 30, 31, 32], ks := [.p 0 0 0 0, .p 1 0 0 0, .d (.sl Aj), .d cI, .d cI], bs := bsS, n := 106, nx := 1000, marks := [] }
def Bgf : Lay := { keys := [2, 3], ks := [.p 0 0 0 0, .p 1 0 0 0], bs := bsS, n := 106, nx := 1000, marks := [] }
def Bb4 : Lay := { keys := [4], ks := [.d cI], bs := [], n := 106, nx := 1000, marks := [] }
def A2b : XE → Lay := fun e => match e with | .ret => Bb4 | _ => Bgf
def Ae8 (x : SKTs kGr) (s : SKTs kSt) (m : List (TCT Aj)) (n i : Int) : A5q.T := (((), (), m, n, i, ()), (x, s, ()))
def Ae9 : A1 A2b := ⟨.ret, ((2, ()), ())⟩
def Anf (x : SKTs kGr) (s : SKTs kSt) : A1 A2b := ⟨.exit 0, (((), (), ()), (x, s, ()))⟩
def otS (s : SKTs kSt) : List Bool := s.2.1
def Aea (g : A5q.T) : Tree (A5q.T ⊕ A1 A2b) := bif decide (g.1.2.2.2.2.1 < g.1.2.2.2.1) then bif decide (0 ≤ g.1.2.2.2.2.1 ∧ g.1.2.2.2.2.1 < ((g.1.2.2.1 : List (TCT Aj)).length : Int)) then
 Vf (blX g.2.1).length (otS g.2.2.1).length g.1.2.2.2.2.1 (lwG g.2.1) (At (blX g.2.1) (Int.toNat g.1.2.2.2.2.1) (Aq A4)) (At (otS g.2.2.1) (Int.toNat g.1.2.2.2.2.1) (Aq .b)) (At g.1.2.2.1 (Int.toNat g.1.2.2.2.2.1) (Aq Aj))
  (.leaf (.inr Ae9)) (.leaf (.inl (Ae8 g.2.1 g.2.2.1 g.1.2.2.1 g.1.2.2.2.1 (W64 (g.1.2.2.2.2.1 + 1))))) else .fail else .leaf (.inr (Anf g.2.1 g.2.2.1))
def Ang (g : A5q.T) : Nat := (g.1.2.2.1 : List (TCT Aj)).length + 1
theorem Bgg : Ae Tryz.prog 32 Bb3 (A9 A5q A2b (Bu [.ret, .exit 0] Aea Ang)) := Aw (Ad Ab Aid A2) 7 _ A5q A2b (fun e => by cases e <;> exact Nat.le_refl _) [.ret, .exit 0] Aea Ang (fun g => by kernel_rfl)
noncomputable def Bb5 : Code := (A8 (bodyOf Tryz.f70)).getD 0 .skip
def A2c : Lay := { keys := [2, 3, 5], ks := [.p 0 0 0 0, .p 1 0 0 0, .d cI], bs := bsS, n := 103, nx := 1000, marks := [] }
def Bgh : Lay := { keys := [2, 3], ks := [.p 0 0 0 0, .p 1 0 0 0], bs := bsS, n := 103, nx := 1000, marks := [] }
def Bb6 : Lay := { keys := [4], ks := [.d cI], bs := [], n := 103, nx := 1000, marks := [] }
def Z1 : XE → Lay := fun e => match e with | .ret => Bb6 | _ => Bgh
def A5r (x : SKTs kGr) (s : SKTs kSt) (i : Int) : A2c.T := (((), (), i, ()), (x, s, ()))
def A5s : A1 Z1 := ⟨.ret, ((2, ()), ())⟩
def Aeb (x : SKTs kGr) (s : SKTs kSt) : A1 Z1 := ⟨.exit 0, (((), (), ()), (x, s, ()))⟩
def msS (s : SKTs kSt) : List (TCT Aj) := s.1
def Aec (g : A2c.T) : Tree (A2c.T ⊕ A1 Z1) := bif decide (g.1.2.2.1 < ((blX g.2.1).length : Int)) then inN (msS g.2.2.1).length g.1.2.2.1 (
 Vf (blX g.2.1).length (otS g.2.2.1).length g.1.2.2.1 (lwG g.2.1) (At (blX g.2.1) (Int.toNat g.1.2.2.1) (Aq A4)) (At (otS g.2.2.1) (Int.toNat g.1.2.2.1) (Aq .b)) (At (msS g.2.2.1) (Int.toNat g.1.2.2.1) (Aq Aj))
  (.leaf (.inr A5s)) (.leaf (.inl (A5r g.2.1 g.2.2.1 (W64 (g.1.2.2.1 + 1)))))) else .leaf (.inr (Aeb g.2.1 g.2.2.1))
def Anh (g : A2c.T) : Nat := (blX g.2.1).length + 1
theorem Bgi : Ae Tryz.prog 70 Bb5 (A9 A2c Z1 (Bu [.ret, .exit 0] Aec Anh)) := Aw (Ad Ab Aid A2) 7 _ A2c Z1 (fun e => by cases e <;> exact Nat.le_refl _) [.ret, .exit 0] Aec Anh (fun g => by kernel_rfl)
def K4 (s : TCT cSt) : SKTs kSt := (s.1, s.2.1, s.2.2.1, s.2.2.2.1, s.2.2.2.2.1, ())
def Aad (s : SKTs kSt) : TCT cSt := (s.1, s.2.1, s.2.2.1, s.2.2.2.1, s.2.2.2.2.1, ())
def msT (s : TCT cSt) : List (TCT Aj) := s.1
def osT (s : TCT cSt) : List Bool := s.2.1
def okO (l : TCT An) (b : TCT A4) (o : Bool) (m : TCT Aj) : Bool := Px b m && (bif o then m.2.1.1 == 0 && (m.2.1.2.1 == 0 && true) else onB l (atM m))
def okS (g : TCT cGr) (os : List Bool) (i : Nat) (m : TCT Aj) : Bool := okO g.1 (At (A3 g) i (Aq A4)) (At os i (Aq .b)) m
theorem A0d {G E : Type} {nb no : Nat} {i : Int} {l : TCT An} {b : TCT A4} {o : Bool} {m : TCT Aj} {rt : E} {nx : G} (h1 : 0 ≤ i ∧ i < (nb : Int)) (h2 : 0 ≤ i ∧ i < (no : Int)) :
  (Vf nb no i l b o m (.leaf (.inr rt)) (.leaf (.inl nx)) : Tree (G ⊕ E)).run = some (bif okO l b o m then .inl nx else .inr rt) := by
 unfold Vf Aac okO
 rw [Ci h1, V1, Ci h2, Ci h2]
 cases Px b m with
 | false => rfl
 | true =>
  cases o with
  | false => cases onB l (atM m) <;> rfl
  | true => cases m.2.1.1 == 0 && (m.2.1.2.1 == 0 && true) <;> rfl
def Bb7 (g : TCT cGr) (s : TCT cSt) : Option (A1 A2b) := iter Aea ((msT s).length + 1) (Ae8 (Ek g) (K4 s) s.1 (msT s).length 0)
def B4t (g : TCT cGr) (s : TCT cSt) : Option (A1 Z1) := iter Aec ((A3 g).length + 1) (A5r (Ek g) (K4 s) 0)
theorem Awk {g : TCT cGr} {s : TCT cSt} (h1 : (msT s).length = (A3 g).length) (h2 : (osT s).length = (A3 g).length) (hm : ((msT s).length : Int) ≤ As .i64) :
  Bb7 g s = some (bif Gy (okS g (osT s)) 0 (msT s) then Anf (Ek g) (K4 s) else Ae9) := by
 refine Vc (msT s) (Aq Aj) (fun i => Ae8 (Ek g) (K4 s) s.1 (msT s).length i) (okS g (osT s))
  (fun i m => Vf (A3 g).length (osT s).length i g.1 (At (A3 g) (Int.toNat i) (Aq A4)) (At (osT s) (Int.toNat i) (Aq .b)) m (.leaf (.inr Ae9)) (.leaf (.inl (Ae8 (Ek g) (K4 s) s.1 (msT s).length (W64 (i + 1))))) : Int → TCT Aj → Tree (A5q.T ⊕ A1 A2b)) Ae9 (Anf (Ek g) (K4 s)) hm (fun i => rfl) fun i hi => ?_
 rw [A0d (by omega) (by omega), show Int.toNat (i : Int) = i from rfl, Bs hi hm]
 rfl
theorem Awl {g : TCT cGr} {s : TCT cSt} (h1 : (msT s).length = (A3 g).length) (h2 : (osT s).length = (A3 g).length) (hm : ((msT s).length : Int) ≤ As .i64) :
  B4t g s = some (bif Gy (okS g (osT s)) 0 (msT s) then Aeb (Ek g) (K4 s) else A5s) := by
 unfold B4t
 rw [← h1]
 refine Vc (msT s) (Aq Aj) (fun i => A5r (Ek g) (K4 s) i) (okS g (osT s))
  (fun i m => Vf (A3 g).length (osT s).length i g.1 (At (A3 g) (Int.toNat i) (Aq A4)) (At (osT s) (Int.toNat i) (Aq .b)) m (.leaf (.inr A5s)) (.leaf (.inl (A5r (Ek g) (K4 s) (W64 (i + 1))))) : Int → TCT Aj → Tree (A2c.T ⊕ A1 Z1)) A5s (Aeb (Ek g) (K4 s)) hm (fun i => ?_) fun i hi => ?_
 ·show (bif decide (i < ((A3 g).length : Int)) then inN (msT s).length i (Vf (A3 g).length (osT s).length i g.1 (At (A3 g) (Int.toNat i) (Aq A4)) (At (osT s) (Int.toNat i) (Aq .b)) (At (msT s) (Int.toNat i) (Aq Aj)) (.leaf (.inr A5s)) (.leaf (.inl (A5r (Ek g) (K4 s) (W64 (i + 1)))))) else .leaf (.inr (Aeb (Ek g) (K4 s))) : Tree (A2c.T ⊕ A1 Z1)) = _
  rw [← h1]
  rfl
 ·rw [A0d (by omega) (by omega), show Int.toNat (i : Int) = i from rfl, Bs hi hm]
  rfl
def A5t (n : Int) (s : TCT cSt) : Bool := decide (s.2.2.1 < 0) || (decide (s.2.2.1 ≥ n) || (decide (s.2.2.2.1 < 0) || (decide (s.2.2.2.1 > 8) || (decide (s.2.2.2.2.1 < 0) || decide (s.2.2.2.2.1 > 4000)))))
def A5u (g : TCT cGr) (s : TCT cSt) : Bool := (((msT s).length : Int) == ((A3 g).length : Int)) && (((osT s).length : Int) == ((A3 g).length : Int))
def vaE (g : TCT cGr) (s : TCT cSt) : Int := bif A5u g s then bif Gy (okS g (osT s)) 0 (msT s) then bif A5t (A3 g).length s then 2 else 0 else 2 else 17
def Ee (g : TCT cGr) (s : TCT cSt) : Int := bif groE g != 0 then groE g else vaE g s
abbrev Bb8 : PureT := B9 [cGr, cSt] [cI] (fun _ => true) (fun x => (vaE x.1 x.2.1, ()))
abbrev A0e : PureT := B9 [cGr, cSt] [cI] (fun x => decide ((x.1.1.1.size : Int) ≤ As .i64)) (fun x => (Ee x.1 x.2.1, ()))
def Ani (n : Int) (s : TCT cSt) : TEr := er (decide (s.2.2.1 < 0)) 2 (er (decide (s.2.2.1 ≥ n)) 2 (er (decide (s.2.2.2.1 < 0)) 2 (er (decide (s.2.2.2.1 > 8)) 2 (er (decide (s.2.2.2.2.1 < 0)) 2 (er (decide (s.2.2.2.2.1 > 4000)) 2 (.leaf (0, ())))))))
theorem Awm (n : Int) (s : TCT cSt) : Ani n s = er (A5t n s) 2 (.leaf (0, ())) := by
 unfold Ani A5t
 rw [Lk, Lk, Lk, Lk, Lk]
def Anj (g : TCT cGr) (s : TCT cSt) (k : TEr) : TEr := er (((msT s).length : Int) != ((A3 g).length : Int)) 17 (er (((osT s).length : Int) != ((A3 g).length : Int)) 17 k)
theorem Awn (g : TCT cGr) (s : TCT cSt) (k : TEr) : Anj g s k = er (!A5u g s) 17 k := by
 unfold Anj A5u
 rw [← Lk]
 congr 1
 cases h1 : ((msT s).length : Int) == ((A3 g).length : Int) <;> cases h2 : ((osT s).length : Int) == ((A3 g).length : Int) <;> simp [bne, h1, h2]
theorem Vg {g : TCT cGr} {s : TCT cSt} (h : A5u g s = true) : (msT s).length = (A3 g).length ∧ (osT s).length = (A3 g).length := by
 unfold A5u at h
 simp only [Bool.and_eq_true, beq_iff_eq] at h
 omega
def Bgj (g : TCT cGr) (y : Option (A1 A2b)) : TEr := bif isE .ret y then .leaf ((B7 .ret y).1.1, ()) else bif isE (.exit 0) y then Ani (blX (B7 (.exit 0) y).2.1).length (Aad (B7 (.exit 0) y).2.2.1) else .fail
def Bgk (g : TCT cGr) (y : Option (A1 Z1)) : TEr := bif isE .ret y then .leaf ((B7 .ret y).1.1, ()) else bif isE (.exit 0) y then Ani (blX (B7 (.exit 0) y).2.1).length (Aad (B7 (.exit 0) y).2.2.1) else .fail
def B4u (g : TCT cGr) (s : TCT cSt) : TEr := szT g.1 (bif groE g != 0 then .leaf (groE g, ()) else Anj g s (Bgj g (Bb7 g s)))
def B4v (g : TCT cGr) (s : TCT cSt) : TEr := Anj g s (Bgk g (B4t g s))
theorem Ank {g : TCT cGr} {s : TCT cSt} {k : TEr} (h : A5u g s = true → k = bif Gy (okS g (osT s)) 0 (msT s) then Ani (A3 g).length s else .leaf (2, ())) : (Anj g s k).sat (fun y => y = (vaE g s, ())) := by
 rw [Awn]
 unfold vaE
 cases he : A5u g s with
 | false => exact rfl
 | true =>
  rw [h he]
  cases Gy (okS g (osT s)) 0 (msT s) with
  | false => exact rfl
  | true =>
   simp only [Bool.not_true, cond_true]
   rw [Awm]
   cases A5t (A3 g).length s <;> exact rfl
theorem Awo {g : TCT cGr} {s : TCT cSt} (hs : (g.1.1.size : Int) ≤ As .i64) (hm : ((msT s).length : Int) ≤ As .i64) : (B4u g s).sat (fun y => y = (Ee g s, ())) := by
 unfold B4u Ee
 rw [Bz hs]
 cases groE g != 0 with
 | true => exact rfl
 | false =>
  simp only [cond_false]
  refine Ank fun he => ?_
  obtain ⟨h1, h2⟩ := Vg he
  rw [Awk h1 h2 hm]
  cases Gy (okS g (osT s)) 0 (msT s) <;> rfl
theorem Awp {g : TCT cGr} {s : TCT cSt} (hm : ((msT s).length : Int) ≤ As .i64) : (B4v g s).sat (fun y => y = (vaE g s, ())) := by
 unfold B4v
 refine Ank fun he => ?_
 obtain ⟨h1, h2⟩ := Vg he
 rw [Awl h1 h2 hm]
 cases Gy (okS g (osT s)) 0 (msT s) <;> rfl
noncomputable def Bgl : Ctx := Gu Tryz.prog Awj [(32, Tryz.f32)] [((32, 7), A9 A5q A2b (Bu [.ret, .exit 0] Aea Ang))]
theorem Awq : CtxOk Bgl := Bx Ab Aid (fns_cons is_a0 A2) (Bg (by kernel_rfl) (by kernel_rfl) Bgg)
theorem Awr : A7 Tryz.prog 32 A0e := B6 Awq 7 (fun x => B4u x.1 x.2.1) (fun x => by kernel_rfl) fun x hok hw => Awo (of_decide_eq_true hok) (Es hw.2.1.1)
noncomputable def Bgm : Ctx := Gu Tryz.prog Awj [(70, Tryz.f70)] [((70, 4), A9 A2c Z1 (Bu [.ret, .exit 0] Aec Anh))]
theorem Aws : CtxOk Bgm := Bx Ab Aid (fns_cons is_a2 A2) (Bg (by kernel_rfl) (by kernel_rfl) Bgi)
theorem Anl : A7 Tryz.prog 70 Bb8 := B6 Aws 7 (fun x => B4v x.1 x.2.1) (fun x => by kernel_rfl) fun x _ hw => Awp (Es hw.2.1.1)
def Bb9 : List (Nat × PureT) := (70, Bb8) :: Awj
theorem Bba : By Tryz.prog Bb9 := A0 is_a2.plain Anl Aid
theorem Vh : A7 Tryz.prog 26 A0e := B6 (Ad Ab Bba (fns_cons is_a1 A2)) 7 (fun x => szT x.1.1 (bif groE x.1 != 0 then szT x.1.1 (.leaf (groE x.1, ())) else .leaf (vaE x.1 x.2.1, ()))) (fun x => by kernel_rfl) fun x hok _ => by
 rw [Bz (of_decide_eq_true hok), Bz (of_decide_eq_true hok)]
 show (bif groE x.1 != 0 then _ else _ : TEr).sat (fun y => y = (Ee x.1 x.2.1, ()))
 unfold Ee
 cases groE x.1 != 0 <;> exact rfl
end St
def Ag {S B : Type} (f : Nat → S → S ⊕ B) : Nat → Nat → S → S ⊕ B
 | _, 0, s => .inl s
 | i, k + 1, s => match f i s with
  | .inl s' => Ag f (i + 1) k s'
  | .inr b => .inr b
def Vi {G E S B : Type} (hd : Nat → S → G) (res : S ⊕ B → E) (i : Nat) : S ⊕ B → G ⊕ E
 | .inl s => .inl (hd (i + 1) s)
 | .inr b => .inr (res (.inr b))
theorem Ef {G E S B : Type} {st : G → Tree (G ⊕ E)} (n : Nat) (hd : Nat → S → G) (f : Nat → S → S ⊕ B) (res : S ⊕ B → E) (Inv : Nat → S → Prop)
  (h1 : ∀ i s, i < n → Inv i s → (st (hd i s)).run = some (Vi hd res i (f i s)))
  (h2 : ∀ i s s', i < n → Inv i s → f i s = .inl s' → Inv (i + 1) s')
  (h3 : ∀ s, Inv n s → (st (hd n s)).run = some (.inr (res (.inl s)))) :
  ∀ (k i : Nat) (s : S), i + k = n → Inv i s → iter st (k + 1) (hd i s) = some (res (Ag f i k s))
 | 0, i, s, hk, hi => by
  have e : i = n := by omega
  subst e
  exact Dh (h3 s hi)
 | k + 1, i, s, hk, hi => by
  have hlt : i < n := by omega
  have hr := h1 i s hlt hi
  unfold Ag
  cases hf : f i s with
  | inl s' =>
   rw [hf] at hr
   rw [Jq hr]
   exact Ef n hd f res Inv h1 h2 h3 k (i + 1) s' (by omega) (h2 i s s' hlt hi hf)
  | inr b =>
   rw [hf] at hr
   exact Dh hr
theorem B8 {S B : Type} {f : Nat → S → S ⊕ B} {Inv : Nat → S → Prop} {n : Nat} (h2 : ∀ i s s', i < n → Inv i s → f i s = .inl s' → Inv (i + 1) s') : ∀ (k i : Nat) (s s' : S), i + k = n → Inv i s → Ag f i k s = .inl s' → Inv n s'
 | 0, i, s, s', hk, hi, h => by
  have e : i = n := by omega
  subst e
  cases h
  exact hi
 | k + 1, i, s, s', hk, hi, h => by
  unfold Ag at h
  cases hf : f i s with
  | inl t => rw [hf] at h; exact B8 h2 k (i + 1) t s' (by omega) (h2 i s t (by omega) hi hf) h
  | inr b => rw [hf] at h; cases h
theorem Gi {β : Type} {h w : List β} {b : Nat} (k : h.length + w.length ≤ 1000000) (hb : b ≤ 48) : Ex h w b = true := by
 rw [Ke, decide_eq_true_iff]
 have h1 : ((h.length + w.length : Nat) : Int) ≤ 1000000 := by omega
 have h2 : (b : Int) ≤ 48 := by omega
 calc ((h.length + w.length : Nat) : Int) * b ≤ 1000000 * 48 := Int.mul_le_mul h1 h2 (by omega) (by decide)
  _ ≤ 140737488355328 := by decide
namespace St
theorem is_a3 : FnIs Tryz.prog (51, Tryz.f51) := ⟨Tryz.func51, by kernel_rfl, by kernel_rfl⟩
theorem is_a4 : FnIs Tryz.prog (36, Tryz.f36) := ⟨Tryz.func36, by kernel_rfl, by kernel_rfl⟩
abbrev kSo : List SK := [.o 62 Aj, .o 4 .b, .d cI, .d cI, .d cI]
abbrev B4w : List (Nat × PureT) := (32, A0e) :: (26, A0e) :: (103, Adq) :: Bb9
theorem B4x : By Tryz.prog B4w := A0 is_a0.plain Awr (A0 is_a1.plain Vh (A0 is_au.plain Avc Bba))
def r0 : SKTs kSt := ([], [], 0, 0, 0, ())
def q0 (p : List (TCT cPt)) : SKTs kSt := ([], List.replicate (Int.toNat (p.length : Int)) false, 0, 0, 0, ())
def zS : TCT cSt := ([], [], 0, 0, 0, ())
def Py (s : TCT cSt) : TCT cSt := (s.1, s.2.1, s.2.2.1, s.2.2.2.1, s.2.2.2.2.1, ())
theorem Awt {g : TCT cGr} (h : groE g = 0) : 1 ≤ (A3 g).length ∧ (A3 g).length ≤ 8 := by
 unfold groE at h
 cases h1 : Cn g.1 != 0 with
 | true => rw [h1, cond_true] at h; rw [h] at h1; cases h1
 | false =>
  rw [h1, cond_false] at h
  cases h2 : decide (((A3 g).length : Int) < 1) || decide (((A3 g).length : Int) > 8) with
  | true => rw [h2] at h; cases h
  | false =>
   rw [Bool.or_eq_false_iff, decide_eq_false_iff_not, decide_eq_false_iff_not] at h2
   omega
def C0 (s : TCT cSt) : Bool := (msT s).all O6
abbrev A2d : PureT := B9 [cSt] [.b] (fun _ => true) (fun x => (C0 x.1, ()))
theorem Aie (s : TCT cSt) : (!(msT s).any (F5 ())) = C0 s := by
 have : (msT s).any (F5 ()) = !(msT s).all O6 := J8 O6 _
 rw [this, Bool.not_not]
 rfl
theorem Anm : A7 Tryz.prog 51 A2d := B6 (Ad Ab B4x (fns_cons is_a3 (fns_cons is_ak A2))) 7 (fun x => .leaf (!(msT x.1).any (F5 ()), ())) (fun x => by kernel_rfl) fun x _ _ => by
 show _ = _
 rw [Aie]
noncomputable def Bbb : Code := (A8 (bodyOf Tryz.f36)).getD 0 .skip
def Aae : Lay := { keys := [1, 3], ks := [.p 0 0 0 0, .d cI], bs := [(0, 38, kSt)], n := 19, nx := 1000, marks := [] }
def Bgn : Lay := { keys := [], ks := [], bs := [], n := 19, nx := 1000, marks := [] }
def Bbc : Lay := { keys := [2], ks := [.d .b], bs := [], n := 19, nx := 1000, marks := [] }
def Aaf : XE → Lay := fun e => match e with | .ret => Bbc | _ => Bgn
def Ann (s : SKTs kSt) (i : Int) : Aae.T := (((), i, ()), (s, ()))
def Ano : A1 Aaf := ⟨.ret, ((false, ()), ())⟩
def Anp : A1 Aaf := ⟨.exit 0, ((), ())⟩
def A2e (m : TCT Aj) : Bool := !(m.2.1.1 == 0 && (m.2.1.2.1 == 0 && true))
theorem Awu (m : TCT Aj) : A2e m = !O6 m := by unfold A2e O6; rw [Bool.and_true]
def Aed (g : Aae.T) : Tree (Aae.T ⊕ A1 Aaf) := bif decide (g.1.2.1 < ((msS g.2.1).length : Int)) then bif decide (0 ≤ g.1.2.1 ∧ g.1.2.1 < ((msS g.2.1).length : Int)) then
 bif A2e (At (msS g.2.1) (Int.toNat g.1.2.1) (Aq Aj)) then .leaf (.inr Ano) else .leaf (.inl (Ann g.2.1 (W64 (g.1.2.1 + 1)))) else .fail else .leaf (.inr Anp)
def Anq (g : Aae.T) : Nat := (msS g.2.1).length + 1
theorem Bgo : Ae Tryz.prog 36 Bbb (A9 Aae Aaf (Bu [.ret, .exit 0] Aed Anq)) := Aw (Ad Ab Aid A2) 7 _ Aae Aaf (fun e => by cases e <;> exact Nat.le_refl _) [.ret, .exit 0] Aed Anq (fun g => by kernel_rfl)
noncomputable def Bgp : Ctx := Gu Tryz.prog B4w [(36, Tryz.f36)] [((36, 2), A9 Aae Aaf (Bu [.ret, .exit 0] Aed Anq))]
theorem Awv : CtxOk Bgp := Bx Ab B4x (fns_cons is_a4 A2) (Bg (by kernel_rfl) (by kernel_rfl) Bgo)
def Aww (s : TCT cSt) : Option (A1 Aaf) := iter Aed ((msT s).length + 1) (Ann (K4 s) 0)
def B4y (s : TCT cSt) : TBo := bif isE .ret (Aww s) then .leaf ((B7 .ret (Aww s)).1.1, ()) else bif isE (.exit 0) (Aww s) then .leaf (true, ()) else .fail
theorem Aag : A7 Tryz.prog 36 A2d := B6 Awv 7 (fun x => B4y x.1) (fun x => by kernel_rfl) fun x _ hw => by
 have hy : Aww x.1 = some (bif (msT x.1).any A2e then Ano else Anp) := M0 (msT x.1) (Aq Aj) (Ann (K4 x.1)) A2e Ano Anp (Es hw.1.1) (fun _ => rfl)
 have hq : (msT x.1).any A2e = !C0 x.1 := by
  unfold C0
  rw [← J8 O6]
  exact N9 fun m _ => Awu m
 show (B4y x.1).sat (fun y => y = (C0 x.1, ()))
 unfold B4y
 rw [hy, hq]
 cases C0 x.1 <;> exact rfl
def B4z : List (Nat × PureT) := (51, A2d) :: (36, A2d) :: B4w
theorem Bbd : By Tryz.prog B4z := A0 is_a3.plain Anm (A0 is_a4.plain Aag B4x)
end St
end V
end Go.Proofs.YtkiaifmbbnnliaaGreat
