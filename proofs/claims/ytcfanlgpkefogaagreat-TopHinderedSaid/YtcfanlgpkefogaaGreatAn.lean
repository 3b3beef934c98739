import Derived.Test.YtcfanlgpkefogaaGreatAm
namespace Go.Proofs.YtcfanlgpkefogaaGreat
open Go.RowKit
namespace V
theorem Dd5 {a b:Bm} {re dr:Int} (ha:a.Fit) (hb:b.Fit) (hc:Bcv a.px a.py b.px b.py (a.r+b.r)=true) (hx:Be3 re dr=true):KFit (nX a b) (nY a b) (uX a b) (uY a b) re dr (a.m+b.m):=by
 have P:=pair ha hb
 have c1:=ha.r1;have c2:=ha.r2;have c3:=hb.r1;have c4:=hb.r2
 have d1:=ha.m1;have d2:=ha.m2;have d3:=hb.m1;have d4:=hb.m2
 have hq:=Bz8 hc (by omega)
 unfold Be3 at hx
 simp only [Bool.and_eq_true,Bool.not_eq_true'] at hx
 have e1:=Bcj hx.1
 have e2:=Bcj hx.2
 unfold Bcv at hc
 have hs:=(of_decide_eq_true hc).1
 have h2:(a.r+b.r)*(a.r+b.r)≤8192*8192:=Bdr (by omega) (by omega)
 have hsum:sq a.px a.py b.px b.py=nX a b*nX a b+nY a b*nY a b:=rfl
 have hx1:=Bg1 (nX a b)
 have hy1:=Bg1 (nY a b)
 have sqb:∀ z:Int,z*z≤8192*8192 → -8192≤z∧z≤8192:=by
  intro z hz
  refine ⟨?_,C5p (by omega) hz⟩
  have:(-z)*(-z)≤8192*8192:=by rw [Int.neg_mul_neg];exact hz
  have:=C5p (a := -z) (b:=8192) (by omega) this
  omega
 have ⟨x1,x2⟩:=sqb (nX a b) (by omega)
 have ⟨y1,y2⟩:=sqb (nY a b) (by omega)
 exact ⟨x1,x2,y1,y2,P.ux1,P.ux2,P.uy1,P.uy2,e1.1,e1.2,e2.1,e2.2,by omega,by omega,by unfold pQ;omega⟩
theorem C0b {m x B:Int} (h:0≤m) (h1 : -B≤x) (h2:x≤B) : -(B*m)≤m*x∧m*x≤B*m:=by
 have a:=Int.mul_le_mul_of_nonneg_left h1 h
 have b:=Int.mul_le_mul_of_nonneg_left h2 h
 rw [Int.mul_neg,Int.mul_comm m B] at a
 rw [Int.mul_comm m B] at b
 exact ⟨a,b⟩
theorem Dd6 {a b:Bm} (ha:a.Fit) (hb:b.Fit):UFit (uX a b) (uY a b) (a.m+b.m):=by
 have m1:=ha.m1;have m2:=hb.m1
 have ⟨a1,a2⟩:=C0b (m:=b.m) (by omega) ha.mx1 ha.mx2
 have ⟨a3,a4⟩:=C0b (m:=a.m) (by omega) hb.mx1 hb.mx2
 have ⟨b1,b2⟩:=C0b (m:=b.m) (by omega) ha.my1 ha.my2
 have ⟨b3,b4⟩:=C0b (m:=a.m) (by omega) hb.my1 hb.my2
 have e:16777216*(a.m+b.m)=16777216*a.m+16777216*b.m:=Int.mul_add ..
 refine ⟨?_,?_,?_,?_⟩ <;> simp only [uX,uY] <;> omega
def KP (a b:Bm) (re dr:Int):Int×Int:=kK (nX a b) (nY a b) (uX a b) (uY a b) re dr (a.m+b.m)
structure KF (a b:Bm) (re dr x y:Int):Prop where
 fa:a.Fit
 fb:b.Fit
 bnc:Be3 re dr=true
 cl:Bcv a.px a.py b.px b.py (a.r+b.r)=true
 pos:0<uN a b
 kb:KB (nX a b) (nY a b) (uX a b) (uY a b) re dr (a.m+b.m)
 ke:KEnd (pN1 (nX a b) (nY a b) (uX a b) (uY a b) re dr) (pN2 (nX a b) (nY a b) (uX a b) (uY a b) re dr) (a.m+b.m) (uX a b) (uY a b) x y
 hx:x=(KP a b re dr).1
 hy:y=(KP a b re dr).2
theorem C8e {a b:Bm} {re dr:Int} {P:Bky→Prop} (h1:(a.ok&&(b.ok&&Be3 re dr))=false→P ((0,0,()),2,()))
  (h2:a.Fit→b.Fit→Be3 re dr=true→Bcv a.px a.py b.px b.py (a.r+b.r)=false→P ((0,0,()),5,()))
  (h3:a.Fit→b.Fit→Be3 re dr=true→Bcv a.px a.py b.px b.py (a.r+b.r)=true→uN a b≤0→P ((0,0,()),10,()))
  (h4:∀ x y,KF a b re dr x y→P ((x,y,()),0,())):P (Bln a b re dr):=by
 unfold Bln
 cases h:(a.ok&&(b.ok&&Be3 re dr)) with
 | false=>exact h1 h
 | true =>
  simp only [Bool.and_eq_true] at h
  obtain ⟨ha,hb,hx⟩:=h
  have fa:=Bm.fit ha
  have fb:=Bm.fit hb
  cases hc:Bcv a.px a.py b.px b.py (a.r+b.r) with
  | false=>exact h2 fa fb hx hc
  | true =>
   by_cases hd:uN a b≤0
   ·rw [decide_eq_true hd];exact h3 fa fb hx hc hd
   ·rw [decide_eq_false hd]
    have kb:=(Dd5 fa fb hc hx).kb (Dd6 fa fb)
    exact h4 _ _ ⟨fa,fb,hx,hc,by omega,kb,D1f kb,rfl,rfl⟩
def Bm.mv (a:Bm) (x y:Int):Bm:={ a with mx:=x,my:=y }
theorem C8f {a:Bm} {x y:Int} (h:a.Fit) (k:Bb3 x y=true):(a.mv x y).Fit:=by
 unfold Bb3 at k
 simp only [Bool.and_eq_true,Bool.not_eq_true'] at k
 have k1:=Bcj k.1
 have k2:=Bcj k.2
 exact { h with mx1:=k1.1,mx2:=k1.2,my1:=k2.1,my2:=k2.2 }
theorem Cgs {a b:Bm} {re dr:Int} {P:Bky→Cb2→Prop} (h1:(a.ok&&(b.ok&&Be3 re dr))=false→P ((0,0,()),2,()) (Bci,Bci,2,()))
  (h2:a.Fit→b.Fit→Be3 re dr=true→Bcv a.px a.py b.px b.py (a.r+b.r)=false→P ((0,0,()),5,()) (Bci,Bci,5,()))
  (h3:a.Fit→b.Fit→Be3 re dr=true→Bcv a.px a.py b.px b.py (a.r+b.r)=true→uN a b≤0→P ((0,0,()),10,()) (Bci,Bci,10,()))
  (h4:∀ x y,KF a b re dr x y→(Bb3 (a.mx-x) (a.my-y)&&Bb3 (b.mx+x) (b.my+y))=false→P ((x,y,()),0,()) (Bci,Bci,4,()))
  (h5:∀ x y,KF a b re dr x y→(a.mv (a.mx-x) (a.my-y)).Fit→(b.mv (b.mx+x) (b.my+y)).Fit→P ((x,y,()),0,()) (a.moved (a.mx-x) (a.my-y),b.moved (b.mx+x) (b.my+y),0,())):P (Bln a b re dr) (Bbi a b re dr):=by
 unfold Bbi
 refine C8e (P:=fun k=>P k (Bf9 a b k)) h1 h2 h3 fun x y K=>?_
 have x1:=K.ke.x1;have x2:=K.ke.x2;have y1:=K.ke.y1;have y2:=K.ke.y2
 have a1:=K.fa.mx1;have a2:=K.fa.mx2;have a3:=K.fa.my1;have a4:=K.fa.my2
 have b1:=K.fb.mx1;have b2:=K.fb.mx2;have b3:=K.fb.my1;have b4:=K.fb.my2
 unfold Bf9
 simp only
 rw [show W64 (a.mx-x)=_ from Fp (by omega) (by omega),show W64 (a.my-y)=_ from Fp (by omega) (by omega),show W64 (b.mx+x)=_ from Fp (by omega) (by omega),show W64 (b.my+y)=_ from Fp (by omega) (by omega)]
 cases s1:Bb3 (a.mx-x) (a.my-y) with
 | false=>exact h4 x y K (by rw [s1];rfl)
 | true=>cases s2:Bb3 (b.mx+x) (b.my+y) with
  | false=>exact h4 x y K (by rw [s1,s2];rfl)
  | true=>exact h5 x y K (C8f K.fa s1) (C8f K.fb s2)
end V
end Go.Proofs.YtcfanlgpkefogaaGreat
