import Derived.Test.YtcfanlgpkefogaaGreatUh
namespace Go.Proofs.YtcfanlgpkefogaaGreat
open Go.RowKit
namespace V
def stB (a:Bm):Bm:={ a with px:=sX a,py:=sY a,rx:=DR (a.mx+a.rx) (64*a.m),ry:=DR (a.my+a.ry) (64*a.m) }
def Bn3:Nat→Bm→Bool
 | 0,_=>true
 | k+1,a=>bif fpt (sX a) (sY a) then Bn3 k (stB a) else false
def stE:Nat→Bm→Bm
 | 0,a=>a
 | k+1,a=>bif fpt (sX a) (sY a) then stE k (stB a) else stB a
def stI:Nat→Int→Bm→Int
 | 0,i,_=>i
 | k+1,i,a=>bif fpt (sX a) (sY a) then stI k (i+1) (stB a) else i
theorem Cu6 {a:Bm} (h:a.Fit) (k:fpt (sX a) (sY a)=true):(stB a).Fit:=by
 have ⟨_,d1,d2⟩:=Bzc (a.mx+a.rx) (64*a.m) (by have:=h.m1;omega)
 have ⟨_,d3,d4⟩:=Bzc (a.my+a.ry) (64*a.m) (by have:=h.m1;omega)
 have ⟨x1,x2,y1,y2⟩:=Bfs k
 exact ⟨h.m1,h.m2,h.r1,h.r2,k,x1,x2,y1,y2,h.mx1,h.mx2,h.my1,h.my2,by show -(32*a.m)≤DR _ _;omega,by show DR _ _≤32*a.m-1;omega,by show -(32*a.m)≤DR _ _;omega,by show DR _ _≤32*a.m-1;omega⟩
def Lst:Lay:={ keys:=[6,7,8,19,20],ks:=[.p 2 0 0 0,.d cI,.p 3 0 0 0,.d cI,.d cI],bs:=[(2,60,[.d cI,.d cI,.d cI,.d cI,.d cI,.d cI]),(3,197,[.d cI,.d cI,.d cI,.d cI,.d cI,.d cI,.d cI,.d cI])],n:=28,nx:=1000,marks:=[] }
noncomputable def Cn9:Code:=(Bal (bodyOf Tryz.f62)).getD 0 .skip
abbrev S6:=Int×Int×Int×Int×Int×Int×Unit
def Sg (e n i:Int) (r:S6) (a:Bm):Lst.T:=(((),e,(),n,i,()),r,(a.m,a.r,a.px,a.py,a.mx,a.my,a.rx,a.ry,()),())
def gB (g:Lst.T):Bm:=⟨g.2.2.1.1,g.2.2.1.2.1,g.2.2.1.2.2.1,g.2.2.1.2.2.2.1,g.2.2.1.2.2.2.2.1,g.2.2.1.2.2.2.2.2.1,g.2.2.1.2.2.2.2.2.2.1,g.2.2.1.2.2.2.2.2.2.2.1⟩
def C3r:XE→Lay:=fun _=>Lst
def stW (a:Bm):Bm:={ a with px:=W64 (a.px+DvW (W64 (a.mx+a.rx)) (W64 (64*a.m))),py:=W64 (a.py+DvW (W64 (a.my+a.ry)) (W64 (64*a.m))),rx:=DvR (W64 (a.mx+a.rx)) (W64 (64*a.m)),ry:=DvR (W64 (a.my+a.ry)) (W64 (64*a.m)) }
def Cbm (e n i:Int) (r:S6) (a:Bm):Tree (Lst.T⊕V1 C3r) :=
 bif decide (i<n) then bif !Bf8 (stW a).px (stW a).py==0 then .leaf (.inr ⟨.ret,Sg 4 n i (0,0,0,0,0,0,()) (stW a)⟩) else .leaf (.inl (Sg e n (W64 (i+1)) r (stW a)))
 else .leaf (.inr ⟨.exit 0,Sg e n i r a⟩)
theorem D1e {a:Bm} (h:a.Fit):stW a=stB a:=by
 have w:=Cwt h
 unfold stW stB
 rw [w.w1,w.w2,w.w3,w.v1,w.v2,w.v3,w.v4,w.x,w.y]
def C7t (g:Lst.T):Tree (V1 C3r) :=
 .br (decide (0≤g.1.2.2.2.2.1∧g.1.2.2.2.2.1≤g.1.2.2.2.1∧g.1.2.2.2.1≤16000)&&(gB g).ok)
  (.br (Bn3 (g.1.2.2.2.1-g.1.2.2.2.2.1).toNat (gB g))
   (.leaf ⟨.exit 0,Sg g.1.2.1 g.1.2.2.2.1 g.1.2.2.2.1 g.2.1 (stE (g.1.2.2.2.1-g.1.2.2.2.2.1).toNat (gB g))⟩)
   (.leaf ⟨.ret,Sg 4 g.1.2.2.2.1 (stI (g.1.2.2.2.1-g.1.2.2.2.2.1).toNat g.1.2.2.2.2.1 (gB g)) (0,0,0,0,0,0,()) (stE (g.1.2.2.2.1-g.1.2.2.2.2.1).toNat (gB g))⟩)) .fail
theorem Cbn {step:Lst.T→Tree (Lst.T⊕V1 C3r)} (hs:∀ e n i r a,step (Sg e n i r a)=Cbm e n i r a) (R:V1 C3r→Prop) (e n:Int) (r:S6) (hn:n≤16000):∀ (k:Nat) (i:Int) (a:Bm),a.Fit→0≤i→n-i=k →
  (Bn3 k a=true→R ⟨.exit 0,Sg e n n r (stE k a)⟩)→(Bn3 k a=false→R ⟨.ret,Sg 4 n (stI k i a) (0,0,0,0,0,0,()) (stE k a)⟩)→C4g Lst C3r step R (k+1) (Sg e n i r a)
 | 0,i,a,ha,hi,hk,h1,h2=>by
  have e1:i=n:=by omega
  subst e1
  intro _
  rw [hs]
  unfold Cbm
  rw [show decide (i<i)=false by simp]
  exact fun _=>h1 rfl
 | k+1,i,a,ha,hi,hk,h1,h2=>by
  intro _
  rw [hs]
  unfold Cbm
  rw [D1e ha,show decide (i<n)=true by simp;omega,cond_true,show W64 (i+1)=i+1 from Bah (by omega) (by omega)]
  unfold Bn3 stE at h1
  unfold Bn3 stE stI at h2
  show Tree.sat _ (bif !Bf8 (sX a) (sY a)==0 then _ else _)
  unfold Bf8
  cases hc:fpt (sX a) (sY a) with
  | true =>
   rw [hc] at h1 h2
   exact Cbn hs R e n r hn k (i+1) (stB a) (Cu6 ha hc) (by omega) (by omega) h1 h2
  | false =>
   rw [hc] at h1 h2
   exact fun _=>h2 rfl
noncomputable def D89:Ctx:=ctx Tryz.prog plS [(106,Tryz.f106),(140,Tryz.f140),(139,Tryz.f139)]
theorem Cu7:CtxOk D89:=Bap Bao puS (fns_cons is_rollstep (fns_cons is_rollstep1 (fns_cons is_each No)))
theorem Cu8:Bb0 Tryz.prog 62 Cn9 (Baw Lst C3r C7t):=by
 refine Bdw Cu7 7 62 (fun _=>none) (fun _ _ f h=>by simp at h) Lst C3r (fun _=>Nat.le_refl _) C7t (fun g=>Cbm g.1.2.1 g.1.2.2.2.1 g.1.2.2.2.2.1 g.2.1 (gB g)) (fun g=>by kernel_rfl) ?_
 intro g R _ hf
 obtain ⟨hf,h0⟩:=hf
 cases hc:(decide (0≤g.1.2.2.2.2.1∧g.1.2.2.2.2.1≤g.1.2.2.2.1∧g.1.2.2.2.1≤16000)&&(gB g).ok) with
 | false=>exact (h0 hc).elim
 | true =>
  obtain ⟨h1,h2⟩:=hf hc
  rw [Bool.and_eq_true] at hc
  obtain ⟨k1,k2,k3⟩:=of_decide_eq_true hc.1
  exact ⟨_,Cbn (fun _ _ _ _ _=>rfl) R g.1.2.1 g.1.2.2.2.1 g.2.1 k3 (g.1.2.2.2.1-g.1.2.2.2.2.1).toNat g.1.2.2.2.2.1 (gB g) (Bm.fit hc.2) k1 (Int.toNat_of_nonneg (Int.sub_nonneg.2 k2)).symm h1 h2⟩
noncomputable def Cu9:Ctx:=Bgo Tryz.prog plS [(62,Tryz.f62)] [((62,6),Baw Lst C3r C7t)]
theorem C7u:CtxOk Cu9:=Bc8 Bao puS (fns_cons is_steps No) (Bbt (by kernel_rfl) (by kernel_rfl) Cu8)
def mot (a:Bm):TCT Baq:=((a.px,a.py,()),(a.mx,a.my,()),(a.rx,a.ry,()),())
def Bn4 (n:Int) (a:Bm):Brg:=bif !a.ok then (Bce,2,()) else bif Bn3 n.toNat a then (mot (stE n.toNat a),0,()) else (Bce,4,())
def Bzq (n:Int) (a:Bm):Tree Brg :=
 bif okE a.ok != 0 then .leaf (Bce,okE a.ok,()) else
 bif decide ((0:Int)≤0∧0≤n∧n≤16000)&&a.ok then bif Bn3 (Int.toNat (n-0)) a then .leaf (mot (stE (Int.toNat (n-0)) a),0,()) else .leaf (Bce,4,()) else .fail
theorem C7v (n:Int) (a:Bm) (h:decide (0≤n∧n≤16000)=true):(Bzq n a).sat (fun y=>y=Bn4 n a):=by
 obtain ⟨h1,h2⟩:=of_decide_eq_true h
 unfold Bzq Bn4 okE
 rw [Int.sub_zero]
 cases ha:a.ok with
 | false=>exact rfl
 | true =>
  rw [show decide ((0:Int)≤0∧0≤n∧n≤16000)=true by simp;omega]
  cases hb:Bn3 n.toNat a <;> exact rfl
abbrev Cbo:PureT:=Bbc [Fq,Baq,cI] [Baq,cI] (fun x=>decide (0≤x.2.2.1∧x.2.2.1≤16000)) (fun x=>Cec (Bn4 x.2.2.1 (bm x.1 x.2.1)))
theorem Cua:Bai Tryz.prog 62 Cbo:=Bbd C7u 7
 (fun x=>Bzq x.2.2.1 (bm x.1 x.2.1)) (fun x=>by kernel_rfl) fun _ hok _=>C7v _ _ hok
theorem is_Tick:FnIs Tryz.prog (20,Tryz.f20):=⟨Tryz.func20,by kernel_rfl,by kernel_rfl⟩
def plTi:List (Nat×PureT):=(62,Cbo)::plS
theorem puTi:Bc5 Tryz.prog plTi:=puOk_cons is_steps.plain Cua puS
def Lrt:Lay:={ keys:=[2,3,4,6,7,8],ks:=[.d cI,.p 0 0 0 0,.p 1 0 0 0,.p 2 0 0 0,.d cI,.d cI],bs:=[(0,70,[.d cI,.d cI]),(1,60,[.d cI,.d cI,.d cI,.d cI,.d cI,.d cI]),(2,60,[.d cI,.d cI,.d cI,.d cI,.d cI,.d cI])],n:=41,nx:=1000,marks:=[] }
def hB (g:Lrt.T):Bm:=⟨g.2.1.1,g.2.1.2.1,g.2.2.1.1,g.2.2.1.2.1,g.2.2.1.2.2.1,g.2.2.1.2.2.2.1,g.2.2.1.2.2.2.2.1,g.2.2.1.2.2.2.2.2.1⟩
end V
end Go.Proofs.YtcfanlgpkefogaaGreat
namespace Go.Proofs.YtcfanlgpkefogaaGreat
open Go.RowKit
namespace V
def C3s (t:Int) (a:Bm):Brg:=bif !a.ok then (Bce,2,()) else bif decide (t<0)||decide (t>1000) then (Bce,3,()) else Bn4 (16*t) a
abbrev Cna:PureT:=Bbc [Fq,Baq,cI] [Baq,cI] (fun _=>true) (fun x=>Cec (C3s x.2.2.1 (bm x.1 x.2.1)))
def C7w (n:Int) (a:Bm):Tree Brg :=
 bif okE a.ok != 0 then .leaf (Bce,okE a.ok,()) else
 bif decide (n<0) then .leaf (Bce,3,()) else bif decide (n>1000) then .leaf (Bce,3,()) else
 bif decide (0≤W64 (16*n)∧W64 (16*n)≤16000) then .leaf (Cec (Bn4 (W64 (16*n)) a)) else .fail
theorem Cef (n:Int) (a:Bm):(C7w n a).sat (fun y=>y=Cec (C3s n a)):=by
 unfold C7w C3s okE
 cases ha:a.ok with
 | false=>exact rfl
 | true =>
  rcases Int.lt_or_le n 0 with h | h
  ·rw [show decide (n<0)=true by simpa using h];exact rfl
  ·rw [show decide (n<0)=false by simp;omega]
   rcases Int.lt_or_le 1000 n with k | k
   ·rw [show decide (n>1000)=true by simp;omega];exact rfl
   ·rw [show decide (n>1000)=false by simp;omega,show W64 (16*n)=16*n from Bah (by omega) (by omega),show decide (0≤16*n∧16*n≤16000)=true by simp;omega]
    exact rfl
theorem D1f:Bai Tryz.prog 20 Cna:=Bbd (Bap Bao puTi (fns_cons is_Tick No)) 7
 (fun x=>C7w x.2.2.1 (bm x.1 x.2.1)) (fun x=>by kernel_rfl) fun _ _ _=>Cef _ _
theorem is_Slow:FnIs Tryz.prog (19,Tryz.f19):=⟨Tryz.func19,by kernel_rfl,by kernel_rfl⟩
def slN (x y:Int):Int:=rt (64*(x*x+y*y))
def Bk7 (x y l:Int):TCTs [cPt,cI] :=
 bif !Bb3 x y then ((0,0,()),2,()) else bif Bb6 l 0 33554432 then ((0,0,()),3,()) else bif decide (slN x y≤8*l) then ((0,0,()),0,()) else
 (((x*(slN x y-8*l)).tdiv (slN x y),(y*(slN x y-8*l)).tdiv (slN x y),()),0,())
def slQ (x y:Int):Int:=W64 (64*W64 (W64 (x*x)+W64 (y*y)))
def slP (x y l n:Int):TCTs [cPt,cI]:=((W64 ((W64 (x*W64 (n-W64 (8*l)))).tdiv n),W64 ((W64 (y*W64 (n-W64 (8*l)))).tdiv n),()),0,())
def C7x (x y l:Int):Tree (TCTs [cPt,cI]) :=
 bif !Bb3 x y then .leaf ((0,0,()),2,()) else bif Bb6 l 0 33554432 then .leaf ((0,0,()),3,()) else
 bif decide (W64 (RtV (slQ x y)-W64 (8*l))≤0) then .leaf ((0,0,()),0,()) else
 bif RtV (slQ x y)!=0 then bif RtV (slQ x y)!=0 then .leaf (slP x y l (RtV (slQ x y))) else .fail else .fail
theorem C3t {a n A:Int} (h1 : -A≤a) (h2:a≤A) : -A≤a.tdiv n∧a.tdiv n≤A:=by
 have t1:=Int.natAbs_tdiv a n
 have t3:=Nat.div_le_self a.natAbs n.natAbs
 have t4:(a.tdiv n).natAbs≤a.natAbs:=t1 ▸ t3
 generalize a.tdiv n=z at *
 omega
structure SlW (x y l:Int):Prop where
 q:slQ x y=64*(x*x+y*y)
 q0:0≤64*(x*x+y*y)
 q1:64*(x*x+y*y)≤36028797018963968
 v:RtV (64*(x*x+y*y))=slN x y
 n0:0≤slN x y
 n1:slN x y≤268435456
 l0:W64 (8*l)=8*l
 d:W64 (slN x y-8*l)=slN x y-8*l
 p:8*l<slN x y→slP x y l (slN x y)=(((x*(slN x y-8*l)).tdiv (slN x y),(y*(slN x y-8*l)).tdiv (slN x y),()),0,())
theorem D8a {x y l:Int} (h:Bb3 x y=true) (k:Bb6 l 0 33554432=false):SlW x y l:=by
 unfold Bb3 at h
 simp only [Bool.and_eq_true,Bool.not_eq_true'] at h
 have:=Bdf h.1;have:=Bdf h.2;have:=Bdf k
 have ⟨a1,a2⟩:=Bc4 (a:=x) (b:=x) (A:=16777216) (B:=16777216) (by omega) (by omega) (by omega) (by omega)
 have ⟨b1,b2⟩:=Bc4 (a:=y) (b:=y) (A:=16777216) (B:=16777216) (by omega) (by omega) (by omega) (by omega)
 have c1:0≤x*x:=by rcases Int.le_total 0 x with c | c;exact Int.mul_nonneg c c;exact Int.mul_nonneg_of_nonpos_of_nonpos c c
 have c2:0≤y*y:=by rcases Int.le_total 0 y with c | c;exact Int.mul_nonneg c c;exact Int.mul_nonneg_of_nonpos_of_nonpos c c
 have q:slQ x y=64*(x*x+y*y):=by
  unfold slQ
  rw [show W64 (x*x)=x*x from Bah (by omega) (by omega),show W64 (y*y)=y*y from Bah (by omega) (by omega),show W64 (x*x+y*y)=x*x+y*y from Bah (by omega) (by omega)]
  exact Bah (by omega) (by omega)
 have q0:0≤64*(x*x+y*y):=by omega
 have ⟨n0,n3,_⟩:=Bg5 _ q0
 have n1:rt (64*(x*x+y*y))≤268435456:=Cwo _ _ q0 (by omega) (by omega)
 have e1:W64 (8*l)=8*l:=Bah (by omega) (by omega)
 have e2:W64 (slN x y-8*l)=slN x y-8*l:=by unfold slN;exact Bah (by omega) (by omega)
 refine ⟨q,q0,by omega,?_,n0,n1,e1,e2,fun g=>?_⟩
 ·unfold RtV Ce2 slN
  rw [if_pos (by simp;omega)]
 ·unfold slP
  have n1':slN x y≤268435456:=n1
  have n0':0≤slN x y:=n0
  rw [e1,e2]
  have ⟨f1,f2⟩:=Bc4 (a:=x) (b:=slN x y-8*l) (A:=16777216) (B:=268435456) (by omega) (by omega) (by omega) (by omega)
  have ⟨f3,f4⟩:=Bc4 (a:=y) (b:=slN x y-8*l) (A:=16777216) (B:=268435456) (by omega) (by omega) (by omega) (by omega)
  rw [show W64 (x*(slN x y-8*l))=x*(slN x y-8*l) from Bah (by omega) (by omega),show W64 (y*(slN x y-8*l))=y*(slN x y-8*l) from Bah (by omega) (by omega)]
  have ⟨t1,t2⟩:=C3t (n:=slN x y) f1 f2
  have ⟨t3,t4⟩:=C3t (n:=slN x y) f3 f4
  rw [show W64 ((x*(slN x y-8*l)).tdiv (slN x y))=(x*(slN x y-8*l)).tdiv (slN x y) from Bah (by omega) (by omega),show W64 ((y*(slN x y-8*l)).tdiv (slN x y))=(y*(slN x y-8*l)).tdiv (slN x y) from Bah (by omega) (by omega)]
theorem Ceg (x y l:Int):(C7x x y l).sat (fun r=>r=Bk7 x y l):=by
 unfold C7x Bk7
 cases h:Bb3 x y with
 | false=>exact rfl
 | true =>
  cases k:Bb6 l 0 33554432 with
  | true=>exact rfl
  | false =>
   have w:=D8a h k
   rw [w.q,w.v,w.l0,w.d]
   have:=w.n0
   rcases Int.lt_or_le (8*l) (slN x y) with g | g
   ·have:=Bdf k
    rw [show decide (slN x y-8*l≤0)=false by simp;omega,show decide (slN x y≤8*l)=false by simp;omega,show (slN x y != 0)=true by simp;omega,w.p g]
    exact rfl
   ·rw [show decide (slN x y-8*l≤0)=true by simp;omega,show decide (slN x y≤8*l)=true by simp;omega]
    exact rfl
abbrev C7y:PureT:=Bbc [cPt,cI] [cPt,cI] (fun _=>true) (fun x=>(((Bk7 x.1.1 x.1.2.1 x.2.1).1.1,(Bk7 x.1.1 x.1.2.1 x.2.1).1.2.1,()),(Bk7 x.1.1 x.1.2.1 x.2.1).2.1,()))
def plSl:List (Nat×PureT):=(61,Cmj)::plK
theorem puSl:Bc5 Tryz.prog plSl:=puOk_cons is_Root.plain D11 puK
theorem Cnb:Bai Tryz.prog 19 C7y:=Bbd (Bap Bao puSl (fns_cons is_Slow No)) 7
 (fun x=>C7x x.1.1 x.1.2.1 x.2.1) (fun x=>by kernel_rfl) fun _ _ _=>Ceg _ _ _
end V
end Go.Proofs.YtcfanlgpkefogaaGreat
