import Derived.Test.YtcfanlgpkefogaaGreatUh
namespace Go.Proofs.YtcfanlgpkefogaaGreat
open Go.RowKit
namespace V
def stB (a:Bm):Bm:={ a with px:=sX a,py:=sY a,rx:=DR (a.mx+a.rx) (64*a.m),ry:=DR (a.my+a.ry) (64*a.m) }
def stE:Nat→Bm→Bm
 | 0,a=>a
 | k+1,a=>bif fpt (sX a) (sY a) then stE k (stB a) else stB a
def mot (a:Bm):TCT Bat:=((a.px,a.py,()),(a.mx,a.my,()),(a.rx,a.ry,()),())
def Lrt:Lay:={ keys:=[2,3,4,6,7,8],ks:=[.d cI,.p 0 0 0 0,.p 1 0 0 0,.p 2 0 0 0,.d cI,.d cI],bs:=[(0,70,[.d cI,.d cI]),(1,60,[.d cI,.d cI,.d cI,.d cI,.d cI,.d cI]),(2,60,[.d cI,.d cI,.d cI,.d cI,.d cI,.d cI])],n:=41,nx:=1000,marks:=[] }
def hB (g:Lrt.T):Bm:=⟨g.2.1.1,g.2.1.2.1,g.2.2.1.1,g.2.2.1.2.1,g.2.2.1.2.2.1,g.2.2.1.2.2.2.1,g.2.2.1.2.2.2.2.1,g.2.2.1.2.2.2.2.2.1⟩
end V
end Go.Proofs.YtcfanlgpkefogaaGreat
namespace Go.Proofs.YtcfanlgpkefogaaGreat
open Go.RowKit
namespace V
theorem is_Slow:FnIs Tryz.prog (19,Tryz.f19):=⟨Tryz.func19,by kernel_rfl,by kernel_rfl⟩
def slN (x y:Int):Int:=rt (64*(x*x+y*y))
def Bhf (x y l:Int):TCTs [cPt,cI] :=
 bif !Bb3 x y then ((0,0,()),2,()) else bif Bb8 l 0 33554432 then ((0,0,()),3,()) else bif decide (slN x y≤8*l) then ((0,0,()),0,()) else
 (((x*(slN x y-8*l)).tdiv (slN x y),(y*(slN x y-8*l)).tdiv (slN x y),()),0,())
def slQ (x y:Int):Int:=W64 (64*W64 (W64 (x*x)+W64 (y*y)))
def slP (x y l n:Int):TCTs [cPt,cI]:=((W64 ((W64 (x*W64 (n-W64 (8*l)))).tdiv n),W64 ((W64 (y*W64 (n-W64 (8*l)))).tdiv n),()),0,())
def Cb4 (x y l:Int):Tree (TCTs [cPt,cI]) :=
 bif !Bb3 x y then .leaf ((0,0,()),2,()) else bif Bb8 l 0 33554432 then .leaf ((0,0,()),3,()) else
 bif decide (W64 (RtV (slQ x y)-W64 (8*l))≤0) then .leaf ((0,0,()),0,()) else
 bif RtV (slQ x y)!=0 then bif RtV (slQ x y)!=0 then .leaf (slP x y l (RtV (slQ x y))) else .fail else .fail
theorem C6g {a n A:Int} (h1 : -A≤a) (h2:a≤A) : -A≤a.tdiv n∧a.tdiv n≤A:=by
 have t1:=Int.natAbs_tdiv a n
 have t3:=Nat.div_le_self a.natAbs n.natAbs
 have t4:(a.tdiv n).natAbs≤a.natAbs:=t1 ▸ t3
 generalize a.tdiv n=z at *
 omega
structure SlW (x y l:Int):Prop where
 q:slQ x y=64*(x*x+y*y)
 q0:0≤64*(x*x+y*y)
 q1:64*(x*x+y*y)≤36028797018963968
 v:RtV (64*(x*x+y*y))=slN x y
 n0:0≤slN x y
 n1:slN x y≤268435456
 l0:W64 (8*l)=8*l
 d:W64 (slN x y-8*l)=slN x y-8*l
 p:8*l<slN x y→slP x y l (slN x y)=(((x*(slN x y-8*l)).tdiv (slN x y),(y*(slN x y-8*l)).tdiv (slN x y),()),0,())
theorem Dfm {x y l:Int} (h:Bb3 x y=true) (k:Bb8 l 0 33554432=false):SlW x y l:=by
 unfold Bb3 at h
 simp only [Bool.and_eq_true,Bool.not_eq_true'] at h
 have:=Bcj h.1;have:=Bcj h.2;have:=Bcj k
 have ⟨a1,a2⟩:=Bb5 (a:=x) (b:=x) (A:=16777216) (B:=16777216) (by omega) (by omega) (by omega) (by omega)
 have ⟨b1,b2⟩:=Bb5 (a:=y) (b:=y) (A:=16777216) (B:=16777216) (by omega) (by omega) (by omega) (by omega)
 have c1:0≤x*x:=by rcases Int.le_total 0 x with c | c;exact Int.mul_nonneg c c;exact Int.mul_nonneg_of_nonpos_of_nonpos c c
 have c2:0≤y*y:=by rcases Int.le_total 0 y with c | c;exact Int.mul_nonneg c c;exact Int.mul_nonneg_of_nonpos_of_nonpos c c
 have q:slQ x y=64*(x*x+y*y):=by
  unfold slQ
  rw [show W64 (x*x)=x*x from Fp (by omega) (by omega),show W64 (y*y)=y*y from Fp (by omega) (by omega),show W64 (x*x+y*y)=x*x+y*y from Fp (by omega) (by omega)]
  exact Fp (by omega) (by omega)
 have q0:0≤64*(x*x+y*y):=by omega
 have ⟨n0,n3,_⟩:=Bg0 _ q0
 have n1:rt (64*(x*x+y*y))≤268435456:=D2q _ _ q0 (by omega) (by omega)
 have e1:W64 (8*l)=8*l:=Fp (by omega) (by omega)
 have e2:W64 (slN x y-8*l)=slN x y-8*l:=by unfold slN;exact Fp (by omega) (by omega)
 refine ⟨q,q0,by omega,?_,n0,n1,e1,e2,fun g=>?_⟩
 ·unfold RtV Cia slN
  rw [if_pos (by simp;omega)]
 ·unfold slP
  have n1':slN x y≤268435456:=n1
  have n0':0≤slN x y:=n0
  rw [e1,e2]
  have ⟨f1,f2⟩:=Bb5 (a:=x) (b:=slN x y-8*l) (A:=16777216) (B:=268435456) (by omega) (by omega) (by omega) (by omega)
  have ⟨f3,f4⟩:=Bb5 (a:=y) (b:=slN x y-8*l) (A:=16777216) (B:=268435456) (by omega) (by omega) (by omega) (by omega)
  rw [show W64 (x*(slN x y-8*l))=x*(slN x y-8*l) from Fp (by omega) (by omega),show W64 (y*(slN x y-8*l))=y*(slN x y-8*l) from Fp (by omega) (by omega)]
  have ⟨t1,t2⟩:=C6g (n:=slN x y) f1 f2
  have ⟨t3,t4⟩:=C6g (n:=slN x y) f3 f4
  rw [show W64 ((x*(slN x y-8*l)).tdiv (slN x y))=(x*(slN x y-8*l)).tdiv (slN x y) from Fp (by omega) (by omega),show W64 ((y*(slN x y-8*l)).tdiv (slN x y))=(y*(slN x y-8*l)).tdiv (slN x y) from Fp (by omega) (by omega)]
theorem Cik (x y l:Int):(Cb4 x y l).sat (fun r=>r=Bhf x y l):=by
 unfold Cb4 Bhf
 cases h:Bb3 x y with
 | false=>exact rfl
 | true =>
  cases k:Bb8 l 0 33554432 with
  | true=>exact rfl
  | false =>
   have w:=Dfm h k
   rw [w.q,w.v,w.l0,w.d]
   have:=w.n0
   rcases Int.lt_or_le (8*l) (slN x y) with g | g
   ·have:=Bcj k
    rw [show decide (slN x y-8*l≤0)=false by simp;omega,show decide (slN x y≤8*l)=false by simp;omega,show (slN x y != 0)=true by simp;omega,w.p g]
    exact rfl
   ·rw [show decide (slN x y-8*l≤0)=true by simp;omega,show decide (slN x y≤8*l)=true by simp;omega]
    exact rfl
abbrev Cs9:PureT:=Bbh [cPt,cI] [cPt,cI] (fun _=>true) (fun x=>(((Bhf x.1.1 x.1.2.1 x.2.1).1.1,(Bhf x.1.1 x.1.2.1 x.2.1).1.2.1,()),(Bhf x.1.1 x.1.2.1 x.2.1).2.1,()))
def plSl:List (Nat×PureT):=(61,Crk)::plK
theorem puSl:Bcd Tryz.prog plSl:=puOk_cons is_Root.plain D79 puK
theorem D7m:Bai Tryz.prog 19 Cs9:=Bbj (Bas Bar puSl (fns_cons is_Slow V1)) 7
 (fun x=>Cb4 x.1.1 x.1.2.1 x.2.1) (fun x=>by kernel_rfl) fun _ _ _=>Cik _ _ _
end V
end Go.Proofs.YtcfanlgpkefogaaGreat
