import Derived.Test.YtcfanlgpkefogaaGreatUg
namespace Go.Proofs.YtcfanlgpkefogaaGreat
open Go.RowKit
namespace V
theorem is_Bounce:FnIs Tryz.prog (136,Tryz.f136):=⟨Tryz.func136,by kernel_rfl,by kernel_rfl⟩
theorem is_Bounce1:FnIs Tryz.prog (154,Tryz.f154):=⟨Tryz.func154,by kernel_rfl,by kernel_rfl⟩
theorem is_Bump:FnIs Tryz.prog (138,Tryz.f138):=⟨Tryz.func138,by kernel_rfl,by kernel_rfl⟩
theorem is_Work:FnIs Tryz.prog (15,Tryz.f15):=⟨Tryz.func15,by kernel_rfl,by kernel_rfl⟩
def plN:List (Nat×PureT):=(159,Bow 0)::(160,Bow 1)::(153,Cmj)::(155,Bql)::plK
theorem puN:Bc7 Tryz.prog plN:=puOk_cons is_each1.plain Cb8 (puOk_cons is_each2.plain Cb9 (puOk_cons is_Kick.plain D0o (puOk_cons is_CheckDisc.plain Bqm puK)))
abbrev C7f:=TCTs [Baw,Baw,cI]
abbrev D7s (y:C7f):C7f:=(etaS y.1,etaS y.2.1,y.2.2.1,())
def Bm.moved (a:Bm) (x y:Int):TCT Baw:=((a.px,a.py,()),(x,y,()),(a.rx,a.ry,()),())
def Bem (a b:Bm) (k:Bk5):C7f :=
 bif k.2.1 != 0 then (Bc8,Bc8,k.2.1,()) else
 bif !Bb3 (W64 (a.mx-k.1.1)) (W64 (a.my-k.1.2.1)) then (Bc8,Bc8,4,()) else
 bif !Bb3 (W64 (b.mx+k.1.1)) (W64 (b.my+k.1.2.1)) then (Bc8,Bc8,4,()) else
 (a.moved (W64 (a.mx-k.1.1)) (W64 (a.my-k.1.2.1)),b.moved (W64 (b.mx+k.1.1)) (W64 (b.my+k.1.2.1)),0,())
def Bb9 (a b:Bm) (re dr:Int):C7f:=Bem a b (Bkq a b re dr)
def Cml (a b:Bm) (k:Bk5):Tree C7f :=
 bif k.2.1 != 0 then .leaf (Bc8,Bc8,k.2.1,()) else
 bif !Bb3 (W64 (a.mx-k.1.1)) (W64 (a.my-k.1.2.1)) then .leaf (Bc8,Bc8,4,()) else
 bif !Bb3 (W64 (b.mx+k.1.1)) (W64 (b.my+k.1.2.1)) then .leaf (Bc8,Bc8,4,()) else
 .leaf (a.moved (W64 (a.mx-k.1.1)) (W64 (a.my-k.1.2.1)),b.moved (W64 (b.mx+k.1.1)) (W64 (b.my+k.1.2.1)),0,())
theorem Cmm (a b:Bm) (k:Bk5):(Cml a b k).sat (fun y=>y=Bem a b k):=by
 unfold Cml Bem
 cases k.2.1 != 0 <;> cases Bb3 (W64 (a.mx-k.1.1)) (W64 (a.my-k.1.2.1)) <;> cases Bb3 (W64 (b.mx+k.1.1)) (W64 (b.my+k.1.2.1)) <;> exact rfl
abbrev C3g:PureT:=Bbe [Fq,Baw,Fq,Baw,Bbu] [Baw,Baw,cI] (fun _=>true) (fun x=>D7s (Bb9 (bm x.1 x.2.1) (bm x.2.2.1 x.2.2.2.1) x.2.2.2.2.1.1 x.2.2.2.2.1.2.1))
theorem Cmn:Bai Tryz.prog 136 C3g:=Bbg (Baq Bao puN (fns_cons is_Bounce (fns_cons is_Bounce1 (fns_cons is_each V1)))) 6
 (fun x=>Cml (bm x.1 x.2.1) (bm x.2.2.1 x.2.2.2.1) (Bkq (bm x.1 x.2.1) (bm x.2.2.1 x.2.2.2.1) x.2.2.2.2.1.1 x.2.2.2.2.1.2.1)) (fun x=>by kernel_rfl) fun _ _ _=>Cmm _ _ _
def dN (a:Bm) (qx qy:Int):Int:=a.mx*(qx-a.px)+a.my*(qy-a.py)
def Bod (a:Bm) (qx qy q re dr:Int):C7d :=
 bif !(a.ok&&(Bgp qx qy q&&Bdo re dr)) then (Bc8,2,()) else bif !Bcn a.px a.py qx qy (a.r+q) then (Bc8,5,()) else bif decide (dN a qx qy≤0) then (Bc8,10,()) else
 bif !Bb3 (W64 (a.mx-(kK (qx-a.px) (qy-a.py) a.mx a.my re dr 1).1)) (W64 (a.my-(kK (qx-a.px) (qy-a.py) a.mx a.my re dr 1).2)) then (Bc8,4,()) else
 (a.moved (W64 (a.mx-(kK (qx-a.px) (qy-a.py) a.mx a.my re dr 1).1)) (W64 (a.my-(kK (qx-a.px) (qy-a.py) a.mx a.my re dr 1).2)),0,())
def C7g (a:Bm) (qx qy q re dr:Int):Tree C7d :=
 bif okE a.ok != 0 then .leaf (Bc8,2,()) else bif Bte qx qy q != 0 then .leaf (Bc8,2,()) else bif okE (Bdo re dr)!=0 then .leaf (Bc8,2,()) else
 bif fpt a.px a.py&&(fpt qx qy&&decide (0≤W64 (a.r+q)∧W64 (a.r+q)≤131072)) then
 bif !Bcn a.px a.py qx qy (W64 (a.r+q)) then .leaf (Bc8,5,()) else
 bif decide (W64 (W64 (W64 (qx-a.px)*a.mx)+W64 (W64 (qy-a.py)*a.my))≤0) then .leaf (Bc8,10,()) else
 bif kOk (W64 (qx-a.px)) (W64 (qy-a.py)) a.mx a.my 1 then
 bif !Bb3 (W64 (a.mx-(kK (W64 (qx-a.px)) (W64 (qy-a.py)) a.mx a.my re dr 1).1)) (W64 (a.my-(kK (W64 (qx-a.px)) (W64 (qy-a.py)) a.mx a.my re dr 1).2)) then .leaf (Bc8,4,()) else
 .leaf (a.moved (W64 (a.mx-(kK (W64 (qx-a.px)) (W64 (qy-a.py)) a.mx a.my re dr 1).1)) (W64 (a.my-(kK (W64 (qx-a.px)) (W64 (qy-a.py)) a.mx a.my re dr 1).2)),0,())
 else .fail else .fail
theorem Cdw (a:Bm) (qx qy q re dr:Int):(C7g a qx qy q re dr).sat (fun y=>y=Bod a qx qy q re dr):=by
 unfold C7g Bod okE Bte
 cases ha:a.ok with
 | false=>exact rfl
 | true=>cases hb:Bgp qx qy q with
  | false=>exact rfl
  | true=>cases hc:Bdo re dr with
   | false=>exact rfl
   | true =>
    have fa:=Bm.fit ha
    unfold Bgp at hb
    simp only [Bool.and_eq_true,Bool.not_eq_true'] at hb
    obtain ⟨hp,hq⟩:=hb
    have hq':=Bc9 hq
    have hp':=hp
    unfold fpt at hp'
    obtain ⟨q1,q2,q3,q4⟩:=of_decide_eq_true hp'
    have p1:=fa.px1;have p2:=fa.px2;have p3:=fa.py1;have p4:=fa.py2
    have c1:=fa.r1;have c2:=fa.r2
    have ⟨e1,e2⟩:=Bb2 (A:=16777216) (B:=8388608) (b:=qx-a.px) fa.mx1 fa.mx2 (by omega) (by omega)
    have ⟨e3,e4⟩:=Bb2 (A:=16777216) (B:=8388608) (b:=qy-a.py) fa.my1 fa.my2 (by omega) (by omega)
    have wr:W64 (a.r+q)=a.r+q:=Fp (by omega) (by omega)
    have wx:W64 (qx-a.px)=qx-a.px:=Fp (by omega) (by omega)
    have wy:W64 (qy-a.py)=qy-a.py:=Fp (by omega) (by omega)
    have wd:W64 (W64 (a.mx*(qx-a.px))+W64 (a.my*(qy-a.py)))=dN a qx qy:=by
     rw [show W64 (a.mx*(qx-a.px))=_ from Fp (by omega) (by omega),show W64 (a.my*(qy-a.py))=_ from Fp (by omega) (by omega)]
     exact Fp (by omega) (by omega)
    rw [wr,wx,wy,Int.mul_comm (qx-a.px) a.mx,Int.mul_comm (qy-a.py) a.my,wd,fa.p,hp,decide_eq_true (show 0≤a.r+q∧a.r+q≤131072 by omega)]
    cases hcl:Bcn a.px a.py qx qy (a.r+q) with
    | false=>exact rfl
    | true =>
     by_cases hd:dN a qx qy≤0
     ·rw [decide_eq_true hd];exact rfl
     ·have hs:1001*1001≤(a.r+q)*(a.r+q):=Bd7 (by omega) (by omega)
      have hcl':=hcl
      unfold Bcn at hcl'
      have hsq:=(of_decide_eq_true hcl').2
      have ⟨g1,g2⟩:=Bb2 (a:=qx-a.px) (b:=qx-a.px) (A:=8388608) (B:=8388608) (by omega) (by omega) (by omega) (by omega)
      have ⟨g3,g4⟩:=Bb2 (a:=qy-a.py) (b:=qy-a.py) (A:=8388608) (B:=8388608) (by omega) (by omega) (by omega) (by omega)
      have hk:kQ (qx-a.px) (qy-a.py)=sq a.px a.py qx qy:=by
       unfold kQ
       rw [show W64 ((qx-a.px)*(qx-a.px))=_ from Fp (by omega) (by omega),show W64 ((qy-a.py)*(qy-a.py))=_ from Fp (by omega) (by omega)]
       exact Fp (by omega) (by omega)
      have hok:kOk (qx-a.px) (qy-a.py) a.mx a.my 1=true:=by
       unfold kOk kD
       rw [hk,wd]
       exact decide_eq_true ⟨by omega,by decide,by omega⟩
      rw [decide_eq_false hd,hok]
      cases Bb3 (W64 (a.mx-(kK (qx-a.px) (qy-a.py) a.mx a.my re dr 1).1)) (W64 (a.my-(kK (qx-a.px) (qy-a.py) a.mx a.my re dr 1).2)) <;> exact rfl
abbrev Cmo:PureT:=Bbe [Fq,Baw,Bag,Bbu] [Baw,cI] (fun _=>true) (fun x=>D4u (Bod (bm x.1 x.2.1) x.2.2.1.1.1 x.2.2.1.1.2.1 x.2.2.1.2.1 x.2.2.2.1.1 x.2.2.2.1.2.1))
theorem D0q:Bai Tryz.prog 138 Cmo:=Bbg (Baq Bao puN (fns_cons is_Bump V1)) 6
 (fun x=>C7g (bm x.1 x.2.1) x.2.2.1.1.1 x.2.2.1.1.2.1 x.2.2.1.2.1 x.2.2.2.1.1 x.2.2.2.1.2.1) (fun x=>by kernel_rfl) fun _ _ _=>Cdw _ _ _ _ _ _
def Boe (a b:Bm):Int:=b.m*(a.mx*a.mx+a.my*a.my)+a.m*(b.mx*b.mx+b.my*b.my)
def Btm (a b:Bm):TCTs [cI,cI]:=bif !(a.ok&&b.ok) then (0,2,()) else (Boe a b,0,())
def C7h (a b:Bm):Tree (TCTs [cI,cI]):=bif okE a.ok != 0 then .leaf (0,2,()) else bif okE b.ok != 0 then .leaf (0,2,()) else
 .leaf (W64 (W64 (b.m*W64 (W64 (a.mx*a.mx)+W64 (a.my*a.my)))+W64 (a.m*W64 (W64 (b.mx*b.mx)+W64 (b.my*b.my)))),0,())
theorem Cdx (a b:Bm):(C7h a b).sat (fun y=>y=Btm a b):=by
 unfold C7h Btm okE
 cases ha:a.ok with
 | false=>exact rfl
 | true=>cases hb:b.ok with
  | false=>exact rfl
  | true =>
   have fa:=Bm.fit ha
   have fb:=Bm.fit hb
   have ⟨a1,a2⟩:=Bb2 (A:=16777216) (B:=16777216) fa.mx1 fa.mx2 fa.mx1 fa.mx2
   have ⟨a3,a4⟩:=Bb2 (A:=16777216) (B:=16777216) fa.my1 fa.my2 fa.my1 fa.my2
   have ⟨b1,b2⟩:=Bb2 (A:=16777216) (B:=16777216) fb.mx1 fb.mx2 fb.mx1 fb.mx2
   have ⟨b3,b4⟩:=Bb2 (A:=16777216) (B:=16777216) fb.my1 fb.my2 fb.my1 fb.my2
   have m1:=fa.m1;have m2:=fa.m2;have m3:=fb.m1;have m4:=fb.m2
   have ⟨c1,c2⟩:=Bb2 (a:=b.m) (b:=a.mx*a.mx+a.my*a.my) (A:=500) (B:=562949953421312) (by omega) (by omega) (by omega) (by omega)
   have ⟨c3,c4⟩:=Bb2 (a:=a.m) (b:=b.mx*b.mx+b.my*b.my) (A:=500) (B:=562949953421312) (by omega) (by omega) (by omega) (by omega)
   have e:W64 (W64 (b.m*W64 (W64 (a.mx*a.mx)+W64 (a.my*a.my)))+W64 (a.m*W64 (W64 (b.mx*b.mx)+W64 (b.my*b.my))))=Boe a b:=by
    rw [show W64 (a.mx*a.mx)=_ from Fp (by omega) (by omega),show W64 (a.my*a.my)=_ from Fp (by omega) (by omega),show W64 (b.mx*b.mx)=_ from Fp (by omega) (by omega),show W64 (b.my*b.my)=_ from Fp (by omega) (by omega),
     show W64 (a.mx*a.mx+a.my*a.my)=_ from Fp (by omega) (by omega),show W64 (b.mx*b.mx+b.my*b.my)=_ from Fp (by omega) (by omega),show W64 (b.m*(a.mx*a.mx+a.my*a.my))=_ from Fp (by omega) (by omega),show W64 (a.m*(b.mx*b.mx+b.my*b.my))=_ from Fp (by omega) (by omega)]
    exact Fp (by omega) (by omega)
   rw [e];exact rfl
abbrev Cmp:PureT:=Bbe [Fq,Baw,Fq,Baw] [cI,cI] (fun _=>true) (fun x=>((Btm (bm x.1 x.2.1) (bm x.2.2.1 x.2.2.2.1)).1,(Btm (bm x.1 x.2.1) (bm x.2.2.1 x.2.2.2.1)).2.1,()))
theorem D0r:Bai Tryz.prog 15 Cmp:=Bbg (Baq Bao puN (fns_cons is_Work V1)) 6 (fun x=>C7h (bm x.1 x.2.1) (bm x.2.2.1 x.2.2.2.1)) (fun x=>by kernel_rfl) fun _ _ _=>Cdx _ _
end V
end Go.Proofs.YtcfanlgpkefogaaGreat
