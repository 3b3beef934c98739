import Derived.Test.YtcfanlgpkefogaaGreatUc
namespace Go.Proofs.YtcfanlgpkefogaaGreat
open Go.RowKit
namespace V
theorem is_newKick:FnIs Tryz.prog (158,Tryz.f158):=⟨Tryz.func158,by kernel_rfl,by kernel_rfl⟩
theorem is_great:FnIs Tryz.prog (168,Tryz.f168):=⟨Tryz.func168,by kernel_rfl,by kernel_rfl⟩
def plC:List (Nat×PureT):=(56,D2s)::(157,D2t)::(156,Cfj)::plB
theorem puC:Bcd Tryz.prog plC:=puOk_cons is_dot.plain Dcb (puOk_cons is_way.plain Dcc (puOk_cons is_close.plain Czw puB))
def hvS (be ux uy x y:Int):Bool:=decide (W64 (be*W64 (W64 (x*x)+W64 (y*y)))>W64 (2*W64 (W64 (ux*x)+W64 (uy*y))))
def C6d (x:Int):Int:=W64 (x.tdiv 2)
def hv (be ux uy:Int):Nat→Int→Int→Int×Int
 | 0,x,y=>(x,y)
 | n+1,x,y=>bif hvS be ux uy x y then hv be ux uy n (C6d x) (C6d y) else (x,y)
theorem Cfk {x:Int} {n:Nat} (h:x.natAbs<2 ^ (n+1)) (hx:inK .i64 x):(C6d x).natAbs<2 ^ n∧inK .i64 (C6d x):=by
 have ⟨a,b⟩:=Dct hx
 have h1:(x.tdiv 2).natAbs=x.natAbs / 2:=Int.natAbs_tdiv x 2
 unfold C6d
 rw [show W64 (x.tdiv 2)=x.tdiv 2 from Fp (by omega) (by omega),h1]
 refine ⟨?_,?_⟩
 ·rw [Nat.pow_succ] at h;omega
 ·simp only [inK,Bh0,Bb2];omega
theorem Cs2 (be ux uy:Int):hvS be ux uy 0 0=false:=by
 unfold hvS
 simp only [Int.mul_zero]
 rw [show W64 (W64 0+W64 0)=0 by decide,Int.mul_zero]
 decide
theorem Cfl {x:Int} (h:inK .i64 x):x.natAbs<2 ^ 64:=by
 have ⟨a,b⟩:=Dct h
 have:(2:Nat) ^ 64=18446744073709551616:=by decide
 omega
def Lnk:Lay:={ keys:=[8,13,14],ks:=[.p 3 0 0 0,.p 4 0 0 0,.f 168 [.p 4 0 0 0] []],bs:=[(3,31,[.d cI,.d cI]),(4,268,[.d cI,.d cI,.d cI,.d cI,.d cI])],n:=113,nx:=5,marks:=[] }
noncomputable def Caw:Code:=(Bak (bodyOf Tryz.f158)).getD 0 .skip
def Lg (r1 r2 x y ux uy be:Int):Lnk.T:=(((),(),(((),()),()),()),(r1,r2,()),(x,y,ux,uy,be,()),())
def C6e:XE→Lay:=fun _=>Lnk
def Cfm (r1 r2 x y ux uy be:Int):Tree (Lnk.T⊕Fq C6e):=bif hvS be ux uy x y then .leaf (.inl (Lg r1 r2 (C6d x) (C6d y) ux uy be)) else .leaf (.inr ⟨.exit 0,Lg r1 r2 x y ux uy be⟩)
def Cax (g:Lnk.T):Tree (Fq C6e):=.leaf ⟨.exit 0,Lg g.2.1.1 g.2.1.2.1 (hv g.2.2.1.2.2.2.2.1 g.2.2.1.2.2.1 g.2.2.1.2.2.2.1 64 g.2.2.1.1 g.2.2.1.2.1).1 (hv g.2.2.1.2.2.2.2.1 g.2.2.1.2.2.1 g.2.2.1.2.2.2.1 64 g.2.2.1.1 g.2.2.1.2.1).2 g.2.2.1.2.2.1 g.2.2.1.2.2.2.1 g.2.2.1.2.2.2.2.1⟩
theorem Cfn {step:Lnk.T→Tree (Lnk.T⊕Fq C6e)} (hs:∀ r1 r2 x y ux uy be,step (Lg r1 r2 x y ux uy be)=Cfm r1 r2 x y ux uy be) (R:Fq C6e→Prop) (r1 r2 ux uy be:Int):∀ (n:Nat) (x y:Int),x.natAbs<2 ^ n→y.natAbs<2 ^ n→inK .i64 x→inK .i64 y →
  R ⟨.exit 0,Lg r1 r2 (hv be ux uy n x y).1 (hv be ux uy n x y).2 ux uy be⟩→Cbp Lnk C6e step R (n+1) (Lg r1 r2 x y ux uy be)
 | 0,x,y,hx,hy,_,_,h=>by
  have e1:x=0:=by have:(2:Nat) ^ 0=1:=rfl;omega
  have e2:y=0:=by have:(2:Nat) ^ 0=1:=rfl;omega
  subst e1 e2
  intro _
  rw [hs]
  unfold Cfm
  rw [Cs2]
  exact fun _=>h
 | n+1,x,y,hx,hy,kx,ky,h=>by
  intro _
  rw [hs]
  unfold Cfm
  unfold hv at h
  cases hc:hvS be ux uy x y with
  | true =>
   rw [hc,cond_true] at h
   obtain ⟨a1,a2⟩:=Cfk hx kx
   obtain ⟨b1,b2⟩:=Cfk hy ky
   exact Cfn hs R r1 r2 ux uy be n _ _ a1 b1 a2 b2 h
  | false =>
   rw [hc,cond_false] at h
   exact fun _=>h
noncomputable def Czx:Ctx:=ctx Tryz.prog plC [(168,Tryz.f168)]
theorem Cay:CtxOk Czx:=Bas Bar puC (fns_cons is_great V1)
theorem Cie:Baw Tryz.prog 158 Caw (Bav Lnk C6e Cax):=by
 refine Beu Cay 3 158 (fun _=>none) (fun _ _ f h=>by simp at h) Lnk C6e (fun _=>Nat.le_refl _) Cax (fun g=>Cfm g.2.1.1 g.2.1.2.1 g.2.2.1.1 g.2.2.1.2.1 g.2.2.1.2.2.1 g.2.2.1.2.2.2.1 g.2.2.1.2.2.2.2.1) (fun g=>by kernel_rfl) ?_
 intro g R hw hf
 have hw':(WFKs Lnk.ks g.1∧WFB Lnk.bs g.2):=hw
 obtain ⟨_,_,hb,_⟩:=hw'
 have hb':inK .i64 g.2.2.1.1∧inK .i64 g.2.2.1.2.1:=by
  simp only [WFKs,WFK,WFD] at hb
  exact ⟨hb.1,hb.2.1⟩
 exact ⟨65,Cfn (fun _ _ _ _ _ _ _=>rfl) R g.2.1.1 g.2.1.2.1 g.2.2.1.2.2.1 g.2.2.1.2.2.2.1 g.2.2.1.2.2.2.2.1 64 g.2.2.1.1 g.2.2.1.2.1 (Cfl hb'.1) (Cfl hb'.2) hb'.1 hb'.2 hf⟩
def kQ (nx ny:Int):Int:=W64 (W64 (nx*nx)+W64 (ny*ny))
def kD (nx ny ux uy:Int):Int:=W64 (W64 (ux*nx)+W64 (uy*ny))
def kA (nx ny ux uy:Int):Int:=W64 ((kD nx ny ux uy).tdiv (kQ nx ny))
def kC (nx ny ux uy:Int):Int:=W64 ((W64 (W64 (uy*nx)-W64 (ux*ny))).tdiv (kQ nx ny))
def kX (nx ny ux uy re dr be:Int):Int:=W64 ((W64 (W64 (W64 (W64 (1000+re)*nx)*kA nx ny ux uy)-W64 (W64 (dr*ny)*kC nx ny ux uy))).tdiv (W64 (1000*be)))
def kY (nx ny ux uy re dr be:Int):Int:=W64 ((W64 (W64 (W64 (W64 (1000+re)*ny)*kA nx ny ux uy)+W64 (W64 (dr*nx)*kC nx ny ux uy))).tdiv (W64 (1000*be)))
def kK (nx ny ux uy re dr be:Int):Int×Int:=hv be ux uy 64 (kX nx ny ux uy re dr be) (kY nx ny ux uy re dr be)
def kOk (nx ny ux uy be:Int):Bool:=decide (0<kQ nx ny∧0<W64 (1000*be)∧0≤kD nx ny ux uy)
abbrev Bz7:PureT:=Bbh [cPt,cPt,Bbv,cI] [cPt] (fun x=>kOk x.1.1 x.1.2.1 x.2.1.1 x.2.1.2.1 x.2.2.2.1)
 (fun x=>(((kK x.1.1 x.1.2.1 x.2.1.1 x.2.1.2.1 x.2.2.1.1 x.2.2.1.2.1 x.2.2.2.1).1,(kK x.1.1 x.1.2.1 x.2.1.1 x.2.1.2.1 x.2.2.1.1 x.2.2.1.2.1 x.2.2.2.1).2,()),()))
noncomputable def Cif:Ctx:=Bh4 Tryz.prog plC [(158,Tryz.f158)] [((158,9),Bav Lnk C6e Cax)]
theorem C22:CtxOk Cif:=Bca Bar puC (fns_cons is_newKick V1) (Bc0 (by kernel_rfl) (by kernel_rfl) Cie)
def Br1 (nx ny ux uy re dr be:Int):Tree (TCTs [cPt]) :=
 bif kQ nx ny != 0 then bif kQ nx ny != 0 then bif W64 (1000*be)!=0 then bif W64 (1000*be)!=0 then .leaf (((kK nx ny ux uy re dr be).1,(kK nx ny ux uy re dr be).2,()),()) else .fail else .fail else .fail else .fail
theorem C23 (nx ny ux uy re dr be:Int) (h:kOk nx ny ux uy be=true):(Br1 nx ny ux uy re dr be).sat (fun y=>y=(((kK nx ny ux uy re dr be).1,(kK nx ny ux uy re dr be).2,()),())):=by
 obtain ⟨h1,h2,_⟩:=of_decide_eq_true h
 unfold Br1
 rw [show (kQ nx ny != 0)=true by simp;omega,show (W64 (1000*be)!=0)=true by simp;omega]
 exact rfl
theorem Cig:Bai Tryz.prog 158 Bz7:=Bbj C22 3
 (fun x=>Br1 x.1.1 x.1.2.1 x.2.1.1 x.2.1.2.1 x.2.2.1.1 x.2.2.1.2.1 x.2.2.2.1) (fun x=>by kernel_rfl) fun _ hok _=>C23 _ _ _ _ _ _ _ hok
end V
end Go.Proofs.YtcfanlgpkefogaaGreat
namespace Go.Proofs.YtcfanlgpkefogaaGreat
open Go.RowKit
namespace V
end V
end Go.Proofs.YtcfanlgpkefogaaGreat
namespace Go.Proofs.YtcfanlgpkefogaaGreat
open Go.RowKit
namespace V
theorem Bb5 {a b A B:Int} (h1 : -A≤a) (h2:a≤A) (h3 : -B≤b) (h4:b≤B) : -(A*B)≤a*b∧a*b≤A*B:=by
 have e:(a*b).natAbs≤A.natAbs*B.natAbs:=by
  rw [Int.natAbs_mul]
  exact Nat.mul_le_mul (by omega) (by omega)
 have f:((A.natAbs*B.natAbs:Nat):Int)=A*B:=by
  rw [Int.natCast_mul,Int.natAbs_of_nonneg (by omega),Int.natAbs_of_nonneg (by omega)]
 omega
structure Bm where
 m:Int
 r:Int
 px:Int
 py:Int
 mx:Int
 my:Int
 rx:Int
 ry:Int
def Bm.ok (a:Bm):Bool:=Bo1 a.m a.r a.px a.py a.mx a.my a.rx a.ry
abbrev bm (b:TCT No) (s:TCT Bat):Bm:=⟨b.1,b.2.1,s.1.1,s.1.2.1,s.2.1.1,s.2.1.2.1,s.2.2.1.1,s.2.2.1.2.1⟩
structure Bm.Fit (a:Bm):Prop where
 m1:400≤a.m
 m2:a.m≤500
 r1:1000≤a.r
 r2:a.r≤4096
 p:fpt a.px a.py=true
 px1 : -4194304≤a.px
 px2:a.px≤4194304
 py1 : -4194304≤a.py
 py2:a.py≤4194304
 mx1 : -16777216≤a.mx
 mx2:a.mx≤16777216
 my1 : -16777216≤a.my
 my2:a.my≤16777216
 rx1 : -(32*a.m)≤a.rx
 rx2:a.rx≤32*a.m-1
 ry1 : -(32*a.m)≤a.ry
 ry2:a.ry≤32*a.m-1
theorem Bm.fit {a:Bm} (h:a.ok=true):a.Fit:=by
 unfold Bm.ok Bo1 Bhd Bb3 at h
 simp only [Bool.and_eq_true,Bool.not_eq_true'] at h
 obtain ⟨⟨h1,h2⟩,h3,⟨h4,h5⟩,h6,h7⟩:=h
 have:=Bcj h1;have:=Bcj h2;have:=Bcj h4;have:=Bcj h5;have:=Bcj h6;have:=Bcj h7
 have h3':=h3
 unfold fpt at h3'
 obtain ⟨k1,k2,k3,k4⟩:=of_decide_eq_true h3'
 exact ⟨by omega,by omega,by omega,by omega,h3,k1,k2,k3,k4,by omega,by omega,by omega,by omega,by omega,by omega,by omega,by omega⟩
def uX (a b:Bm):Int:=b.m*a.mx-a.m*b.mx
def uY (a b:Bm):Int:=b.m*a.my-a.m*b.my
def nX (a b:Bm):Int:=b.px-a.px
def nY (a b:Bm):Int:=b.py-a.py
def uN (a b:Bm):Int:=uX a b*nX a b+uY a b*nY a b
abbrev Bky:=TCTs [cPt,cI]
def Bln (a b:Bm) (re dr:Int):Bky :=
 bif !(a.ok&&(b.ok&&Be3 re dr)) then ((0,0,()),2,()) else
 bif !Bcv a.px a.py b.px b.py (a.r+b.r) then ((0,0,()),5,()) else
 bif decide (uN a b≤0) then ((0,0,()),10,()) else
 (((kK (nX a b) (nY a b) (uX a b) (uY a b) re dr (a.m+b.m)).1,(kK (nX a b) (nY a b) (uX a b) (uY a b) re dr (a.m+b.m)).2,()),0,())
structure Pair (a b:Bm):Prop where
 ux1 : -16777216000≤uX a b
 ux2:uX a b≤16777216000
 uy1 : -16777216000≤uY a b
 uy2:uY a b≤16777216000
 wux:W64 (W64 (b.m*a.mx)-W64 (a.m*b.mx))=uX a b
 wuy:W64 (W64 (b.m*a.my)-W64 (a.m*b.my))=uY a b
 wnx:W64 (b.px-a.px)=nX a b
 wny:W64 (b.py-a.py)=nY a b
 wr:W64 (a.r+b.r)=a.r+b.r
 wm:W64 (a.m+b.m)=a.m+b.m
 cl:(fpt a.px a.py&&(fpt b.px b.py&&decide (0≤a.r+b.r∧a.r+b.r≤131072)))=true
 dot:W64 (W64 (uX a b*nX a b)+W64 (uY a b*nY a b))=uN a b
theorem pair {a b:Bm} (ha:a.Fit) (hb:b.Fit):Pair a b:=by
 have ⟨a1,a2⟩:=Bb5 (A:=500) (B:=16777216) (show -500≤b.m by have:=hb.m1;omega) hb.m2 ha.mx1 ha.mx2
 have ⟨a3,a4⟩:=Bb5 (A:=500) (B:=16777216) (show -500≤a.m by have:=ha.m1;omega) ha.m2 hb.mx1 hb.mx2
 have ⟨b1,b2⟩:=Bb5 (A:=500) (B:=16777216) (show -500≤b.m by have:=hb.m1;omega) hb.m2 ha.my1 ha.my2
 have ⟨b3,b4⟩:=Bb5 (A:=500) (B:=16777216) (show -500≤a.m by have:=ha.m1;omega) ha.m2 hb.my1 hb.my2
 have hx1 : -16777216000≤uX a b:=by unfold uX;omega
 have hx2:uX a b≤16777216000:=by unfold uX;omega
 have hy1 : -16777216000≤uY a b:=by unfold uY;omega
 have hy2:uY a b≤16777216000:=by unfold uY;omega
 have p1:=ha.px1;have p2:=ha.px2;have p3:=ha.py1;have p4:=ha.py2
 have q1:=hb.px1;have q2:=hb.px2;have q3:=hb.py1;have q4:=hb.py2
 have c1:=ha.r1;have c2:=ha.r2;have c3:=hb.r1;have c4:=hb.r2
 have d1:=ha.m1;have d2:=ha.m2;have d3:=hb.m1;have d4:=hb.m2
 have ⟨e1,e2⟩:=Bb5 (A:=16777216000) (B:=8388608) hx1 hx2 (show -8388608≤nX a b by unfold nX;omega) (show nX a b≤8388608 by unfold nX;omega)
 have ⟨e3,e4⟩:=Bb5 (A:=16777216000) (B:=8388608) hy1 hy2 (show -8388608≤nY a b by unfold nY;omega) (show nY a b≤8388608 by unfold nY;omega)
 refine ⟨hx1,hx2,hy1,hy2,?_,?_,Fp (by omega) (by omega),Fp (by omega) (by omega),Fp (by omega) (by omega),Fp (by omega) (by omega),?_,?_⟩
 ·rw [show W64 (b.m*a.mx)=_ from Fp (by omega) (by omega),show W64 (a.m*b.mx)=_ from Fp (by omega) (by omega)]
  exact Fp (by omega) (by omega)
 ·rw [show W64 (b.m*a.my)=_ from Fp (by omega) (by omega),show W64 (a.m*b.my)=_ from Fp (by omega) (by omega)]
  exact Fp (by omega) (by omega)
 ·rw [ha.p,hb.p,decide_eq_true (show 0≤a.r+b.r∧a.r+b.r≤131072 by omega)];rfl
 ·rw [show W64 (uX a b*nX a b)=_ from Fp (by omega) (by omega),show W64 (uY a b*nY a b)=_ from Fp (by omega) (by omega)]
  exact Fp (by omega) (by omega)
theorem Dcd {a b:Bm} (ha:a.Fit) (hb:b.Fit):kQ (nX a b) (nY a b)=sq a.px a.py b.px b.py:=by
 have p1:=ha.px1;have p2:=ha.px2;have p3:=ha.py1;have p4:=ha.py2
 have q1:=hb.px1;have q2:=hb.px2;have q3:=hb.py1;have q4:=hb.py2
 have ⟨e1,e2⟩:=Bb5 (A:=8388608) (B:=8388608) (show -8388608≤nX a b by unfold nX;omega) (show nX a b≤8388608 by unfold nX;omega) (show -8388608≤nX a b by unfold nX;omega) (show nX a b≤8388608 by unfold nX;omega)
 have ⟨e3,e4⟩:=Bb5 (A:=8388608) (B:=8388608) (show -8388608≤nY a b by unfold nY;omega) (show nY a b≤8388608 by unfold nY;omega) (show -8388608≤nY a b by unfold nY;omega) (show nY a b≤8388608 by unfold nY;omega)
 unfold kQ
 rw [show W64 (nX a b*nX a b)=_ from Fp (by omega) (by omega),show W64 (nY a b*nY a b)=_ from Fp (by omega) (by omega)]
 exact Fp (by omega) (by omega)
theorem Bz8 {px py qx qy s:Int} (h:Bcv px py qx qy s=true) (hs:2000≤s):3515625≤sq px py qx qy:=by
 unfold Bcv at h
 have h1:=(of_decide_eq_true h).2
 have h2:2000*2000≤s*s:=Bdr (by omega) hs
 omega
theorem Czy {a b:Bm} (ha:a.Fit) (hb:b.Fit) (hc:Bcv a.px a.py b.px b.py (a.r+b.r)=true) (hd:¬ uN a b≤0):kOk (nX a b) (nY a b) (uX a b) (uY a b) (a.m+b.m)=true:=by
 have h1:=Bz8 hc (by have:=ha.r1;have:=hb.r1;omega)
 have h2:=Dcd ha hb
 have h3:=(pair ha hb).dot
 have d1:=ha.m1;have d2:=ha.m2;have d3:=hb.m1;have d4:=hb.m2
 unfold kOk kD
 rw [h2,h3,show W64 (1000*(a.m+b.m))=1000*(a.m+b.m) from Fp (by omega) (by omega)]
 exact decide_eq_true ⟨by omega,by omega,by omega⟩
def Caz (a b:Bm) (re dr:Int):Tree Bky :=
 bif okE a.ok != 0 then .leaf ((0,0,()),2,()) else bif okE b.ok != 0 then .leaf ((0,0,()),2,()) else bif okE (Be3 re dr)!=0 then .leaf ((0,0,()),2,()) else
 bif fpt a.px a.py&&(fpt b.px b.py&&decide (0≤W64 (a.r+b.r)∧W64 (a.r+b.r)≤131072)) then
  bif !Bcv a.px a.py b.px b.py (W64 (a.r+b.r)) then .leaf ((0,0,()),5,()) else
  bif decide (W64 (W64 (W64 (b.px-a.px)*W64 (W64 (b.m*a.mx)-W64 (a.m*b.mx)))+W64 (W64 (b.py-a.py)*W64 (W64 (b.m*a.my)-W64 (a.m*b.my))))≤0) then .leaf ((0,0,()),10,()) else
  bif kOk (W64 (b.px-a.px)) (W64 (b.py-a.py)) (W64 (W64 (b.m*a.mx)-W64 (a.m*b.mx))) (W64 (W64 (b.m*a.my)-W64 (a.m*b.my))) (W64 (a.m+b.m)) then
   .leaf (((kK (W64 (b.px-a.px)) (W64 (b.py-a.py)) (W64 (W64 (b.m*a.mx)-W64 (a.m*b.mx))) (W64 (W64 (b.m*a.my)-W64 (a.m*b.my))) re dr (W64 (a.m+b.m))).1,
    (kK (W64 (b.px-a.px)) (W64 (b.py-a.py)) (W64 (W64 (b.m*a.mx)-W64 (a.m*b.mx))) (W64 (W64 (b.m*a.my)-W64 (a.m*b.my))) re dr (W64 (a.m+b.m))).2,()),0,())
  else .fail
 else .fail
theorem Cih (a b:Bm) (re dr:Int):(Caz a b re dr).sat (fun y=>y=Bln a b re dr):=by
 unfold Caz Bln okE
 cases ha:a.ok with
 | false=>exact rfl
 | true=>cases hb:b.ok with
  | false=>exact rfl
  | true=>cases hc:Be3 re dr with
   | false=>exact rfl
   | true =>
    have fa:=Bm.fit ha
    have fb:=Bm.fit hb
    have P:=pair fa fb
    rw [P.wr,P.cl,P.wux,P.wuy,P.wnx,P.wny,P.wm,Int.mul_comm (nX a b) (uX a b),Int.mul_comm (nY a b) (uY a b),P.dot]
    cases hcl:Bcv a.px a.py b.px b.py (a.r+b.r) with
    | false=>exact rfl
    | true =>
     by_cases hd:uN a b≤0
     ·rw [decide_eq_true hd];exact rfl
     ·rw [decide_eq_false hd,Czy fa fb hcl hd];exact rfl
abbrev Dfk (y:Bky):Bky:=((y.1.1,y.1.2.1,()),y.2.1,())
abbrev Cs3:PureT:=Bbh [No,Bat,No,Bat,Bbv] [cPt,cI] (fun _=>true) (fun x=>Dfk (Bln (bm x.1 x.2.1) (bm x.2.2.1 x.2.2.2.1) x.2.2.2.2.1.1 x.2.2.2.2.1.2.1))
theorem is_Kick:FnIs Tryz.prog (153,Tryz.f153):=⟨Tryz.func153,by kernel_rfl,by kernel_rfl⟩
theorem is_meet:FnIs Tryz.prog (166,Tryz.f166):=⟨Tryz.func166,by kernel_rfl,by kernel_rfl⟩
def plK:List (Nat×PureT):=(158,Bz7)::(126,Beb)::(55,Bf8)::(104,C6c)::plC
theorem puK:Bcd Tryz.prog plK:=puOk_cons is_newKick.plain Cig (puOk_cons is_CheckBounce.plain Bjf (puOk_cons is_CheckMotion.plain Bne (puOk_cons is_rcheck.plain Cs1 puC)))
theorem D7j:Bai Tryz.prog 153 Cs3:=Bbj (Bas Bar puK (fns_cons is_Kick (fns_cons is_meet V1))) 6
 (fun x=>Caz (bm x.1 x.2.1) (bm x.2.2.1 x.2.2.2.1) x.2.2.2.2.1.1 x.2.2.2.2.1.2.1) (fun x=>by kernel_rfl) fun _ _ _=>Cih _ _ _ _
end V
end Go.Proofs.YtcfanlgpkefogaaGreat
