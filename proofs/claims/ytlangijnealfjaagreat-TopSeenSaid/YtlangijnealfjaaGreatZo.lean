import Derived.Test.YtlangijnealfjaaGreatZk
import Derived.Test.YtlangijnealfjaaGreatXc
import Derived.Test.YtlangijnealfjaaGreatXz
namespace Go.Proofs.YtlangijnealfjaaGreat
open Go.RowKit
namespace V
namespace Rg
def mir (s:PS):PS:=⟨s.t1-s.t0,s.t1,s.f1-s.f0,s.f1,s.o1,s.o0,s.an⟩
theorem Aq7 {f0 f1 x y:Int}:(y*f1<(f1-f0)*(y-x)) ↔ f0*(y-x)<(0-x)*f1:=by
 have e:(f1-f0)*(y-x)=f1*y-f1*x-f0*(y-x):=by grind
 have e2:(0-x)*f1 = -(f1*x):=by grind
 have e3:y*f1=f1*y:=Int.mul_comm _ _
 rw [e,e2,e3]
 omega
theorem Aq8 {t0 t1 x y:Int}:((t1-t0)*(x-y)<(0-y)*t1) ↔ x*t1<t0*(x-y):=by
 have e:(t1-t0)*(x-y)=t1*x-t1*y-t0*(x-y):=by grind
 have e2:(0-y)*t1 = -(t1*y):=by grind
 have e3:x*t1=t1*x:=Int.mul_comm _ _
 rw [e,e2,e3]
 omega
theorem Aq9 (x y:Int) (s:PS):pSt y x (mir s)=(pSt x y s).map mir:=by
 unfold pSt
 by_cases h1:x≤0
 ·by_cases h2:y≤0
  ·rw [decide_eq_true h1,decide_eq_true h2];rfl
  ·rw [decide_eq_true h1,decide_eq_false h2]
   simp only [Bool.false_and,Bool.and_false,cond_false,cond_true,Option.map_some]
   have e:decide (y*(mir s).t1<(mir s).t0*(y-x))=decide (s.f0*(y-x)<(0-x)*s.f1):=decide_eq_decide.2 Aq7
   rw [e]
   show some (bif !s.o0||decide (s.f0*(y-x)<(0-x)*s.f1) then _ else _)=_
   cases !s.o0||decide (s.f0*(y-x)<(0-x)*s.f1) with
   | true =>
    simp only [cond_true]
    unfold PS.upP PS.lowP mir
    simp only
    rw [show y-x-(0-x)=y by omega]
   | false=>rfl
 ·by_cases h2:y≤0
  ·rw [decide_eq_false h1,decide_eq_true h2]
   simp only [Bool.false_and,Bool.and_false,cond_false,cond_true,Option.map_some]
   have e:decide ((mir s).f0*(x-y)<(0-y)*(mir s).f1)=decide (x*s.t1<s.t0*(x-y)):=decide_eq_decide.2 Aq8
   rw [e]
   show some (bif !s.o1||decide (x*s.t1<s.t0*(x-y)) then _ else _)=_
   cases !s.o1||decide (x*s.t1<s.t0*(x-y)) with
   | true =>
    simp only [cond_true]
    unfold PS.upP PS.lowP mir
    simp only
    rw [show x-y-x=0-y by omega]
   | false=>rfl
  ·rw [decide_eq_false h1,decide_eq_false h2];rfl
def swp (c:PC):PC:=⟨c.bx,c.bY,c.ax,c.ay,c.rb⟩
theorem A5z {c:PC} {l:List (TCT cPt)}:∀ (f i:Nat) (s:PS),K5 (swp c) l f i (mir s)=(K5 c l f i s).map mir
 | 0,_,_=>rfl
 | f+1,i,s=>by
  have e:Iq (swp c) l i (mir s)=(Iq c l i s).map mir:=by
   unfold Iq
   cases Yy (A7 l ((i+1) % l.length) (A5 cPt)) (A7 l i (A5 cPt)) with
   | true=>rfl
   | false=>exact Aq9 _ _ _
  show (Iq (swp c) l i (mir s)).bind _=((Iq c l i s).bind _).map mir
  rw [e]
  cases Iq c l i s with
  | none=>rfl
  | some s'=>exact A5z f (i+1) s'
theorem passF_swap (c:PC) (l:List (TCT cPt)):passF (swp c) l=passF c l:=by
 unfold passF
 have h:=A5z (c:=c) (l:=l) l.length 0 ps0
 rw [show mir ps0=ps0 from rfl] at h
 rw [h]
 cases K5 c l l.length 0 ps0 with
 | none=>rfl
 | some s =>
  show (true&&Ae8 (mir s))=(true&&Ae8 s)
  unfold Ae8 mir
  have e:((s.t1-s.t0)*s.f1<(s.f1-s.f0)*s.t1) ↔ (s.f0*s.t1<s.t0*s.f1):=by
   have a1:(s.t1-s.t0)*s.f1=s.t1*s.f1-s.t0*s.f1:=by grind
   have a2:(s.f1-s.f0)*s.t1=s.t1*s.f1-s.f0*s.t1:=by grind
   rw [a1,a2];omega
  rw [show decide ((s.t1-s.t0)*s.f1<(s.f1-s.f0)*s.t1)=decide (s.f0*s.t1<s.t0*s.f1) from decide_eq_decide.2 e,Bool.and_comm (!s.o1)]
end Rg
end V
end Go.Proofs.YtlangijnealfjaaGreat
namespace Go.Proofs.YtlangijnealfjaaGreat
open Go.RowKit
namespace V
theorem Al3 (ax ay bx bY px py r:Int):LsV bx bY ax ay px py r=LsV ax ay bx bY px py r:=by
 have h1:sq bx bY ax ay=sq ax ay bx bY:=by unfold sq;grind
 have h2:alg bx bY ax ay px py=sq ax ay bx bY-alg ax ay bx bY px py:=by unfold alg sq;grind
 have h3:lft bx bY ax ay px py*lft bx bY ax ay px py=lft ax ay bx bY px py*lft ax ay bx bY px py:=by unfold lft;grind
 have h4:=Af0 ax ay bx bY px py
 have hn:0≤sq ax ay bx bY:=by
  unfold sq
  have:=Gn (bx-ax)
  have:=Gn (bY-ay)
  omega
 unfold LsV
 rw [h1,h2,h3]
 generalize alg ax ay bx bY px py=g at *
 generalize sq ax ay bx bY=L at *
 generalize lft ax ay bx bY px py*lft ax ay bx bY px py=F at *
 by_cases c1:g≤0
 ·by_cases c2:L≤g
  ·have e1:L=0:=by omega
   have e2:g=0:=by omega
   rw [decide_eq_true (show L-g≤0 by omega),decide_eq_true c1,cond_true,cond_true,h4,e1,e2]
   congr 1;omega
  ·rw [decide_eq_false (show ¬ L-g≤0 by omega),decide_eq_true (show L≤L-g by omega),decide_eq_true c1];rfl
 ·by_cases c2:L≤g
  ·rw [decide_eq_true (show L-g≤0 by omega),decide_eq_false c1,decide_eq_true c2];rfl
  ·rw [decide_eq_false (show ¬ L-g≤0 by omega),decide_eq_false (show ¬ L≤L-g by omega),decide_eq_false c1,decide_eq_false c2];rfl
theorem Al4 (ax ay bx bY px py r:Int):CtR bx bY ax ay px py r=CtR ax ay bx bY px py r:=by
 unfold CtR
 rw [Al3]
 cases fpt ax ay <;> cases fpt bx bY <;> rfl
end V
end Go.Proofs.YtlangijnealfjaaGreat
namespace Go.Proofs.YtlangijnealfjaaGreat
open Go.RowKit
namespace V
namespace Tp
open St
theorem is_works07:FnIs Tryz.prog (16,Tryz.f16):=⟨Tryz.func16,by kernel_rfl,by kernel_rfl⟩
theorem is_laws:FnIs Tryz.prog (35,Tryz.f35):=⟨Tryz.func35,by kernel_rfl,by kernel_rfl⟩
abbrev B0p:TC:=.st [cI,.sl .s,.sl .s,.s]
abbrev Ay2:TC:=.st [.s,cI,.sl B0p]
noncomputable def plW07:List (Nat×PureT):=(35,Axy (Aej 20 Tryz.prog [] Awx) 40 35 [] [Ay2])::(46,Iz)::[]
theorem puW07:Cd Tryz.prog plW07:=puOk_cons is_laws.plain (Aq5 (M3 Am puOk_nil S8) _ _ _ _) (puOk_cons is_works05.plain X7 puOk_nil)
set_option maxRecDepth 100000 in
theorem Aem:A6 Tryz.prog 16 Iz:=A1a (M3 (u:=20) Am puW07 S8) 60 (fun _=>by kernel_rfl)
end Tp
end V
end Go.Proofs.YtlangijnealfjaaGreat
namespace Go.Proofs.YtlangijnealfjaaGreat
open Go.RowKit
namespace V
namespace Tp
open St
theorem is_TopSeen:FnIs Tryz.prog (4,Tryz.f4):=⟨Tryz.func4,by kernel_rfl,by kernel_rfl⟩
abbrev cs_topSeen:List TC:=[Dm,Dm,A8r,.b]
abbrev W8:Type:=TCT A1→TCT A1→Int×Int
abbrev Gu:Type:=TCT cPt→TCT cPt→TCT A1→Bool×Int
abbrev Al5 (T:W8):PureT:=Bh [A1,A1] [cI,cI] (fun _=>true) (fun x=>((T x.1 x.2.1).1,(T x.1 x.2.1).2,()))
abbrev Al6 (C:Gu):PureT:=Bh [cPt,cPt,A1] [.b,cI] (fun _=>true) (fun x=>((C x.1 x.2.1 x.2.2.1).1,(C x.1 x.2.1 x.2.2.1).2,()))
def W9:W8:=fun a b=>(Ex a b,Amy a b)
def Dt:Gu:=fun p q d=>CtR p.1 p.2.1 q.1 q.2.1 d.1.1 d.1.2.1 d.2.1
theorem Auw:A6 Tryz.prog 15 (Al5 W9):=S7
theorem Aux:A6 Tryz.prog 17 (Al6 Dt):=Ak7
noncomputable def plSn (T:W8) (O:L9) (K:La) (R:Dg) (P:Ax) (C:Gu):List (Nat×PureT):=(15,Al5 T)::(11,A8q O)::(19,Akz K)::(12,A1j R)::(18,A8l P)::(17,Al6 C)::(16,Iz)::(9,Zx)::[]
end Tp
end V
end Go.Proofs.YtlangijnealfjaaGreat
