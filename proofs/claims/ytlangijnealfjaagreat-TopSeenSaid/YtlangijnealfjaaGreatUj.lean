import Derived.Test.YtlangijnealfjaaGreatVC
import Derived.Test.YtlangijnealfjaaGreatTV
namespace Go.Proofs.YtlangijnealfjaaGreat
open Go.RowKit
namespace V
abbrev Bo:TC:=.st [cI,cI]
abbrev Bz:TC:=.st [cPt,cPt,cPt]
abbrev Rs:TC:=.st [cI,cI]
theorem is_coutside:FnIs Tryz.prog (190,Tryz.f190):=⟨Tryz.func190,by kernel_rfl,by kernel_rfl⟩
theorem is_strong:FnIs Tryz.prog (230,Tryz.f230):=⟨Tryz.func230,by kernel_rfl,by kernel_rfl⟩
abbrev Ar6:PureT:=Bh [cI,cI,cI] [.b] (fun _=>true) (fun x=>(Bd x.1 x.2.1 x.2.2.1,()))
theorem Tv:A6 Tryz.prog 190 Ar6:=pureOk_of_ev (An Am puOk_nil (A0 is_coutside A2)) 2 fun x _ _=>by
 obtain ⟨a,b,c,_⟩:=x
 refine A1e (t:=bif decide (a<b) then .leaf (true,()) else .leaf (decide (a>c),())) (by kernel_rfl) ?_
 refine B0 (fun h=>?_) (fun h=>?_) <;> refine A8 ?_ <;> (show _=(Bd a b c,());unfold Bd;rw [h];rfl)
abbrev A3h:PureT:=Bh [cI,cI,cI] [.b] (fun _=>true) (fun x=>(!Bd x.1 x.2.1 x.2.2.1,()))
def Tw (a b c:Int):Tree (Bool×Unit):=bif decide (a≥b) then .leaf (decide (a≤c),()) else .leaf (false,())
theorem A3i (a b c:Int):(Tw a b c).sat (fun y=>y=(!Bd a b c,())):=by
 unfold Tw Bd
 refine B0 (fun h=>A8 ?_) (fun h=>A8 ?_)
 ·have h':=of_decide_eq_true h
  by_cases k:c<a
  ·rw [decide_eq_true k,decide_eq_false (show ¬ a≤c by omega)];simp
  ·rw [decide_eq_false k,decide_eq_true (show a≤c by omega),decide_eq_false (show ¬ a<b by omega)];rfl
 ·have h':=of_decide_eq_false h
  rw [decide_eq_true (show a<b by omega)];rfl
def Fx (x y:Int):Bool:=!Bd x (-16777216) 16777216&&!Bd y (-16777216) 16777216
abbrev Nw:PureT:=Bh [cPt] [.b] (fun _=>true) (fun x=>(Fx x.1.1 x.1.2.1,()))
def Nx (a b:Int):Tree (Bool×Unit):=bif !Bd a (-16777216) 16777216 then .leaf (!Bd b (-16777216) 16777216,()) else .leaf (false,())
theorem Qs (a b:Int):(Nx a b).sat (fun y=>y=(Fx a b,())):=by
 unfold Nx Fx
 cases !Bd a (-16777216) 16777216 <;> exact rfl
theorem Aij:A6 Tryz.prog 230 Nw:=Bj (An Am (puOk_cons is_coutside.plain Tv puOk_nil) (A0 is_strong A2)) 2 (fun x=>Nx x.1.1 x.1.2.1) (fun x=>by kernel_rfl) fun x _ _=>Qs _ _
def Atr (px py qx qy s:Int):Bool:=decide (sq px py qx qy≤s*s∧225*(s*s)≤256*sq px py qx qy)
end V
end Go.Proofs.YtlangijnealfjaaGreat
namespace Go.Proofs.YtlangijnealfjaaGreat
open Go.RowKit
namespace V
def Jv (m r:Int):Bool:=!Bd m 400 500&&!Bd r 1000 4096
def Wq (re dr:Int):Bool:=!Bd re 0 950&&!Bd dr 0 300
def A7b (m r px py mx my rx ry:Int):Bool:=Jv m r&&(fpt px py&&(Fx mx my&&(!Bd rx (-(32*m)) (32*m-1)&&!Bd ry (-(32*m)) (32*m-1))))
def okE (b:Bool):Int:=bif b then 0 else 2
theorem is_CheckBall:FnIs Tryz.prog (123,Tryz.f123):=⟨Tryz.func123,by kernel_rfl,by kernel_rfl⟩
theorem is_CheckBounce:FnIs Tryz.prog (124,Tryz.f124):=⟨Tryz.func124,by kernel_rfl,by kernel_rfl⟩
theorem is_CheckMotion:FnIs Tryz.prog (125,Tryz.f125):=⟨Tryz.func125,by kernel_rfl,by kernel_rfl⟩
theorem is_rcheck:FnIs Tryz.prog (191,Tryz.f191):=⟨Tryz.func191,by kernel_rfl,by kernel_rfl⟩
def plA:List (Nat×PureT):=[(190,Ar6),(230,Nw),(70,Nu)]
theorem puA:Cd Tryz.prog plA:=puOk_cons is_coutside.plain Tv (puOk_cons is_strong.plain Aij (puOk_cons Ha.plain Nv puOk_nil))
def plR:List (Nat×PureT):=[]
theorem puR:Cd Tryz.prog plR:=puOk_nil
abbrev Kd:PureT:=Bh [Bo] [cI] (fun _=>true) (fun x=>(okE (Jv x.1.1 x.1.2.1),()))
def Ke (m r:Int):Tree (Int×Unit):=bif Bd m 400 500 then .leaf (2,()) else bif Bd r 1000 4096 then .leaf (2,()) else .leaf (0,())
def J7 (m r:Int):Tree (Int×Unit):=bif !!Bd m 400 500 then .leaf (2,()) else bif !!Bd r 1000 4096 then .leaf (2,()) else .leaf (0,())
theorem Tx (m r:Int):(Ke m r).sat (fun y=>y=(okE (Jv m r),())):=by
 unfold Ke Jv okE;cases Bd m 400 500 <;> cases Bd r 1000 4096 <;> exact rfl
theorem Rt (m r:Int):(J7 m r).sat (fun y=>y=(okE (Jv m r),())):=by
 unfold J7 Jv okE;cases Bd m 400 500 <;> cases Bd r 1000 4096 <;> exact rfl
theorem A3k:A6 Tryz.prog 123 Kd:=Bj (An Am puA (A0 is_CheckBall A2)) 2 (fun x=>Ke x.1.1 x.1.2.1) (fun x=>by kernel_rfl) fun _ _ _=>Tx _ _
abbrev Fy:PureT:=Bh [Rs] [cI] (fun _=>true) (fun x=>(okE (Wq x.1.1 x.1.2.1),()))
def I5 (m r:Int):Tree (Int×Unit):=bif Bd m 0 950 then .leaf (2,()) else bif Bd r 0 300 then .leaf (2,()) else .leaf (0,())
def Hb (m r:Int):Tree (Int×Unit):=bif !!Bd m 0 950 then .leaf (2,()) else bif !!Bd r 0 300 then .leaf (2,()) else .leaf (0,())
theorem Ph (m r:Int):(I5 m r).sat (fun y=>y=(okE (Wq m r),())):=by
 unfold I5 Wq okE;cases Bd m 0 950 <;> cases Bd r 0 300 <;> exact rfl
theorem Ny (m r:Int):(Hb m r).sat (fun y=>y=(okE (Wq m r),())):=by
 unfold Hb Wq okE;cases Bd m 0 950 <;> cases Bd r 0 300 <;> exact rfl
theorem Wr:A6 Tryz.prog 124 Fy:=Bj (An Am puA (A0 is_CheckBounce A2)) 2 (fun x=>I5 x.1.1 x.1.2.1) (fun x=>by kernel_rfl) fun _ _ _=>Ph _ _
def A0r (m r px py mx my rx ry:Int):Tree (Int×Unit) :=
 bif Bd m 400 500 then .leaf (2,()) else bif Bd r 1000 4096 then .leaf (2,()) else bif u_ck px py != 0 then .leaf (2,()) else bif !Fx mx my then .leaf (2,()) else
 bif Bd rx (W64 (0-W64 (32*m))) (W64 (W64 (32*m)-1)) then .leaf (2,()) else bif Bd ry (W64 (0-W64 (32*m))) (W64 (W64 (32*m)-1)) then .leaf (2,()) else .leaf (0,())
def Tz (m r px py mx my rx ry:Int):Tree (Int×Unit) :=
 bif !!Bd m 400 500 then .leaf (2,()) else bif !!Bd r 1000 4096 then .leaf (2,()) else bif !fpt px py then .leaf (2,()) else bif !Fx mx my then .leaf (2,()) else
 bif !!Bd rx (W64 (0-W64 (32*m))) (W64 (W64 (32*m)-1)) then .leaf (2,()) else bif !!Bd ry (W64 (0-W64 (32*m))) (W64 (W64 (32*m)-1)) then .leaf (2,()) else .leaf (0,())
theorem Lm {m:Int} (h:Bd m 400 500=false):W64 (0-W64 (32*m)) = -(32*m)∧W64 (W64 (32*m)-1)=32*m-1:=by
 have ⟨h1,h2⟩:=A0j h
 rw [show W64 (32*m)=32*m from Ai (by omega) (by omega)]
 exact ⟨(Ai (by omega) (by omega)).trans (by omega),Ai (by omega) (by omega)⟩
theorem A7c (m r px py mx my rx ry:Int):(A0r m r px py mx my rx ry).sat (fun y=>y=(okE (A7b m r px py mx my rx ry),())):=by
 unfold A0r A7b Jv okE u_ck
 cases h:Bd m 400 500 with
 | true=>exact rfl
 | false =>
  rw [(Lm h).1,(Lm h).2]
  cases Bd r 1000 4096 <;> cases fpt px py <;> cases Fx mx my <;> cases Bd rx (-(32*m)) (32*m-1) <;> cases Bd ry (-(32*m)) (32*m-1) <;> exact rfl
theorem A3l (m r px py mx my rx ry:Int):(Tz m r px py mx my rx ry).sat (fun y=>y=(okE (A7b m r px py mx my rx ry),())):=by
 unfold Tz A7b Jv okE
 cases h:Bd m 400 500 with
 | true=>exact rfl
 | false =>
  rw [(Lm h).1,(Lm h).2]
  cases Bd r 1000 4096 <;> cases fpt px py <;> cases Fx mx my <;> cases Bd rx (-(32*m)) (32*m-1) <;> cases Bd ry (-(32*m)) (32*m-1) <;> exact rfl
abbrev Fz:PureT:=Bh [Bo,Bz] [cI] (fun _=>true) (fun x=>(okE (A7b x.1.1 x.1.2.1 x.2.1.1.1 x.2.1.1.2.1 x.2.1.2.1.1 x.2.1.2.1.2.1 x.2.1.2.2.1.1 x.2.1.2.2.1.2.1),()))
theorem Ws:A6 Tryz.prog 125 Fz:=Bj (An Am puA (A0 is_CheckMotion (A0 is_rcheck (A0 is_CheckBall A2)))) 4
 (fun x=>A0r x.1.1 x.1.2.1 x.2.1.1.1 x.2.1.1.2.1 x.2.1.2.1.1 x.2.1.2.1.2.1 x.2.1.2.2.1.1 x.2.1.2.2.1.2.1) (fun x=>by kernel_rfl) fun _ _ _=>A7c _ _ _ _ _ _ _ _
end V
end Go.Proofs.YtlangijnealfjaaGreat
namespace Go.Proofs.YtlangijnealfjaaGreat
open Go.RowKit
namespace V
def hvS (be ux uy x y:Int):Bool:=decide (W64 (be*W64 (W64 (x*x)+W64 (y*y)))>W64 (2*W64 (W64 (ux*x)+W64 (uy*y))))
def Ax3 (x:Int):Int:=W64 (x.tdiv 2)
def hv (be ux uy:Int):Nat→Int→Int→Int×Int
 | 0,x,y=>(x,y)
 | n+1,x,y=>bif hvS be ux uy x y then hv be ux uy n (Ax3 x) (Ax3 y) else (x,y)
def kQ (nx ny:Int):Int:=W64 (W64 (nx*nx)+W64 (ny*ny))
def kD (nx ny ux uy:Int):Int:=W64 (W64 (ux*nx)+W64 (uy*ny))
def kA (nx ny ux uy:Int):Int:=W64 ((kD nx ny ux uy).tdiv (kQ nx ny))
def kC (nx ny ux uy:Int):Int:=W64 ((W64 (W64 (uy*nx)-W64 (ux*ny))).tdiv (kQ nx ny))
def kX (nx ny ux uy re dr be:Int):Int:=W64 ((W64 (W64 (W64 (W64 (1000+re)*nx)*kA nx ny ux uy)-W64 (W64 (dr*ny)*kC nx ny ux uy))).tdiv (W64 (1000*be)))
def kY (nx ny ux uy re dr be:Int):Int:=W64 ((W64 (W64 (W64 (W64 (1000+re)*ny)*kA nx ny ux uy)+W64 (W64 (dr*nx)*kC nx ny ux uy))).tdiv (W64 (1000*be)))
def kK (nx ny ux uy re dr be:Int):Int×Int:=hv be ux uy 64 (kX nx ny ux uy re dr be) (kY nx ny ux uy re dr be)
end V
end Go.Proofs.YtlangijnealfjaaGreat
namespace Go.Proofs.YtlangijnealfjaaGreat
open Go.RowKit
namespace V
def Lrk:Lay:={ keys:=[3,5,8,12],ks:=[.d cI,.p 1 0 0 0,.p 3 0 0 0,.p 43 0 0 0],bs:=[(1,28,[.d cI,.d cI]),(3,28,[.d cI,.d cI]),(43,28,[.d cI,.d cI])],n:=91,nx:=45,marks:=[] }
def Rg (r1 r2 x y ux uy be:Int):Lrk.T:=((be,(),(),(),()),(ux,uy,()),(r1,r2,()),(x,y,()),())
end V
end Go.Proofs.YtlangijnealfjaaGreat
namespace Go.Proofs.YtlangijnealfjaaGreat
open Go.RowKit
namespace V
theorem De {a b A B:Int} (h1 : -A≤a) (h2:a≤A) (h3 : -B≤b) (h4:b≤B) : -(A*B)≤a*b∧a*b≤A*B:=by
 have e:(a*b).natAbs≤A.natAbs*B.natAbs:=by
  rw [Int.natAbs_mul]
  exact Nat.mul_le_mul (by omega) (by omega)
 have f:((A.natAbs*B.natAbs:Nat):Int)=A*B:=by
  rw [Int.natCast_mul,Int.natAbs_of_nonneg (by omega),Int.natAbs_of_nonneg (by omega)]
 omega
structure Bm where
 m:Int
 r:Int
 px:Int
 py:Int
 mx:Int
 my:Int
 rx:Int
 ry:Int
def Bm.ok (a:Bm):Bool:=A7b a.m a.r a.px a.py a.mx a.my a.rx a.ry
abbrev bm (b:TCT Bo) (s:TCT Bz):Bm:=⟨b.1,b.2.1,s.1.1,s.1.2.1,s.2.1.1,s.2.1.2.1,s.2.2.1.1,s.2.2.1.2.1⟩
structure Bm.Fit (a:Bm):Prop where
 m1:400≤a.m
 m2:a.m≤500
 r1:1000≤a.r
 r2:a.r≤4096
 p:fpt a.px a.py=true
 px1 : -4194304≤a.px
 px2:a.px≤4194304
 py1 : -4194304≤a.py
 py2:a.py≤4194304
 mx1 : -16777216≤a.mx
 mx2:a.mx≤16777216
 my1 : -16777216≤a.my
 my2:a.my≤16777216
 rx1 : -(32*a.m)≤a.rx
 rx2:a.rx≤32*a.m-1
 ry1 : -(32*a.m)≤a.ry
 ry2:a.ry≤32*a.m-1
def uX (a b:Bm):Int:=b.m*a.mx-a.m*b.mx
def uY (a b:Bm):Int:=b.m*a.my-a.m*b.my
def nX (a b:Bm):Int:=b.px-a.px
def nY (a b:Bm):Int:=b.py-a.py
def uN (a b:Bm):Int:=uX a b*nX a b+uY a b*nY a b
abbrev Ar7:=TCTs [cPt,cI]
def Ax4 (a b:Bm) (re dr:Int):Ar7 :=
 bif !(a.ok&&(b.ok&&Wq re dr)) then ((0,0,()),2,()) else
 bif !Atr a.px a.py b.px b.py (a.r+b.r) then ((0,0,()),5,()) else
 bif decide (uN a b≤0) then ((0,0,()),10,()) else
 (((kK (nX a b) (nY a b) (uX a b) (uY a b) re dr (a.m+b.m)).1,(kK (nX a b) (nY a b) (uX a b) (uY a b) re dr (a.m+b.m)).2,()),0,())
structure Pair (a b:Bm):Prop where
 ux1 : -16777216000≤uX a b
 ux2:uX a b≤16777216000
 uy1 : -16777216000≤uY a b
 uy2:uY a b≤16777216000
 wux:W64 (W64 (b.m*a.mx)-W64 (a.m*b.mx))=uX a b
 wuy:W64 (W64 (b.m*a.my)-W64 (a.m*b.my))=uY a b
 wnx:W64 (b.px-a.px)=nX a b
 wny:W64 (b.py-a.py)=nY a b
 wr:W64 (a.r+b.r)=a.r+b.r
 wm:W64 (a.m+b.m)=a.m+b.m
 cl:(fpt a.px a.py&&(fpt b.px b.py&&decide (0≤a.r+b.r∧a.r+b.r≤131072)))=true
 dot:W64 (W64 (uX a b*nX a b)+W64 (uY a b*nY a b))=uN a b
theorem pair {a b:Bm} (ha:a.Fit) (hb:b.Fit):Pair a b:=by
 have ⟨a1,a2⟩:=De (A:=500) (B:=16777216) (show -500≤b.m by have:=hb.m1;omega) hb.m2 ha.mx1 ha.mx2
 have ⟨a3,a4⟩:=De (A:=500) (B:=16777216) (show -500≤a.m by have:=ha.m1;omega) ha.m2 hb.mx1 hb.mx2
 have ⟨b1,b2⟩:=De (A:=500) (B:=16777216) (show -500≤b.m by have:=hb.m1;omega) hb.m2 ha.my1 ha.my2
 have ⟨b3,b4⟩:=De (A:=500) (B:=16777216) (show -500≤a.m by have:=ha.m1;omega) ha.m2 hb.my1 hb.my2
 have hx1 : -16777216000≤uX a b:=by unfold uX;omega
 have hx2:uX a b≤16777216000:=by unfold uX;omega
 have hy1 : -16777216000≤uY a b:=by unfold uY;omega
 have hy2:uY a b≤16777216000:=by unfold uY;omega
 have p1:=ha.px1;have p2:=ha.px2;have p3:=ha.py1;have p4:=ha.py2
 have q1:=hb.px1;have q2:=hb.px2;have q3:=hb.py1;have q4:=hb.py2
 have c1:=ha.r1;have c2:=ha.r2;have c3:=hb.r1;have c4:=hb.r2
 have d1:=ha.m1;have d2:=ha.m2;have d3:=hb.m1;have d4:=hb.m2
 have ⟨e1,e2⟩:=De (A:=16777216000) (B:=8388608) hx1 hx2 (show -8388608≤nX a b by unfold nX;omega) (show nX a b≤8388608 by unfold nX;omega)
 have ⟨e3,e4⟩:=De (A:=16777216000) (B:=8388608) hy1 hy2 (show -8388608≤nY a b by unfold nY;omega) (show nY a b≤8388608 by unfold nY;omega)
 refine ⟨hx1,hx2,hy1,hy2,?_,?_,Ai (by omega) (by omega),Ai (by omega) (by omega),Ai (by omega) (by omega),Ai (by omega) (by omega),?_,?_⟩
 ·rw [show W64 (b.m*a.mx)=_ from Ai (by omega) (by omega),show W64 (a.m*b.mx)=_ from Ai (by omega) (by omega)]
  exact Ai (by omega) (by omega)
 ·rw [show W64 (b.m*a.my)=_ from Ai (by omega) (by omega),show W64 (a.m*b.my)=_ from Ai (by omega) (by omega)]
  exact Ai (by omega) (by omega)
 ·rw [ha.p,hb.p,decide_eq_true (show 0≤a.r+b.r∧a.r+b.r≤131072 by omega)];rfl
 ·rw [show W64 (uX a b*nX a b)=_ from Ai (by omega) (by omega),show W64 (uY a b*nY a b)=_ from Ai (by omega) (by omega)]
  exact Ai (by omega) (by omega)
end V
end Go.Proofs.YtlangijnealfjaaGreat
namespace Go.Proofs.YtlangijnealfjaaGreat
open Go.RowKit
namespace V
abbrev Y4:TCT Bz:=((0,0,()),(0,0,()),(0,0,()),())
def sX (a:Bm):Int:=a.px+DW (a.mx+a.rx) (64*a.m)
def sY (a:Bm):Int:=a.py+DW (a.my+a.ry) (64*a.m)
abbrev etaS (y:TCT Bz):TCT Bz:=((y.1.1,y.1.2.1,()),(y.2.1.1,y.2.1.2.1,()),(y.2.2.1.1,y.2.2.1.2.1,()),())
end V
end Go.Proofs.YtlangijnealfjaaGreat
namespace Go.Proofs.YtlangijnealfjaaGreat
open Go.RowKit
namespace V
abbrev Ax5:=TCTs [Bz,Bz,cI]
def Bm.moved (a:Bm) (x y:Int):TCT Bz:=((a.px,a.py,()),(x,y,()),(a.rx,a.ry,()),())
def Ax6 (a b:Bm) (k:Ar7):Ax5 :=
 bif k.2.1 != 0 then (Y4,Y4,k.2.1,()) else
 bif !Fx (W64 (a.mx-k.1.1)) (W64 (a.my-k.1.2.1)) then (Y4,Y4,4,()) else
 bif !Fx (W64 (b.mx+k.1.1)) (W64 (b.my+k.1.2.1)) then (Y4,Y4,4,()) else
 (a.moved (W64 (a.mx-k.1.1)) (W64 (a.my-k.1.2.1)),b.moved (W64 (b.mx+k.1.1)) (W64 (b.my+k.1.2.1)),0,())
def Se (a b:Bm) (re dr:Int):Ax5:=Ax6 a b (Ax4 a b re dr)
end V
end Go.Proofs.YtlangijnealfjaaGreat
namespace Go.Proofs.YtlangijnealfjaaGreat
open Go.RowKit
namespace V
def stB (a:Bm):Bm:={ a with px:=sX a,py:=sY a,rx:=DR (a.mx+a.rx) (64*a.m),ry:=DR (a.my+a.ry) (64*a.m) }
def Lrt:Lay:={ keys:=[2,3,4,6,7,8],ks:=[.d cI,.p 0 0 0 0,.p 1 0 0 0,.p 2 0 0 0,.d cI,.d cI],bs:=[(0,68,[.d cI,.d cI]),(1,84,[.d cI,.d cI,.d cI,.d cI,.d cI,.d cI]),(2,84,[.d cI,.d cI,.d cI,.d cI,.d cI,.d cI])],n:=41,nx:=1000,marks:=[] }
def hB (g:Lrt.T):Bm:=⟨g.2.1.1,g.2.1.2.1,g.2.2.1.1,g.2.2.1.2.1,g.2.2.1.2.2.1,g.2.2.1.2.2.2.1,g.2.2.1.2.2.2.2.1,g.2.2.1.2.2.2.2.2.1⟩
end V
end Go.Proofs.YtlangijnealfjaaGreat
namespace Go.Proofs.YtlangijnealfjaaGreat
open Go.RowKit
namespace V
end V
end Go.Proofs.YtlangijnealfjaaGreat
