import Derived.Test.YtcfanlgpkefogaaGreatUg
namespace Go.Proofs.YtcfanlgpkefogaaGreat
open Go.RowKit
namespace V
theorem is_Bounce:FnIs Tryz.prog (136,Tryz.f136):=⟨Tryz.func136,by kernel_rfl,by kernel_rfl⟩
theorem is_Bounce1:FnIs Tryz.prog (154,Tryz.f154):=⟨Tryz.func154,by kernel_rfl,by kernel_rfl⟩
theorem is_Bump:FnIs Tryz.prog (138,Tryz.f138):=⟨Tryz.func138,by kernel_rfl,by kernel_rfl⟩
def plN:List (Nat×PureT):=(159,Bou 0)::(160,Bou 1)::(153,Cn3)::(155,Bqo)::plK
theorem puN:Bc5 Tryz.prog plN:=puOk_cons is_each1.plain Cbk (puOk_cons is_each2.plain Cbl (puOk_cons is_Kick.plain D1b (puOk_cons is_CheckDisc.plain Bqp puK)))
abbrev Ced:=TCTs [Baq,Baq,cI]
abbrev D88 (y:Ced):Ced:=(etaS y.1,etaS y.2.1,y.2.2.1,())
def Bm.moved (a:Bm) (x y:Int):TCT Baq:=((a.px,a.py,()),(x,y,()),(a.rx,a.ry,()),())
def Bfe (a b:Bm) (k:Bme):Ced :=
 bif k.2.1 != 0 then (Bce,Bce,k.2.1,()) else
 bif !Bb3 (W64 (a.mx-k.1.1)) (W64 (a.my-k.1.2.1)) then (Bce,Bce,4,()) else
 bif !Bb3 (W64 (b.mx+k.1.1)) (W64 (b.my+k.1.2.1)) then (Bce,Bce,4,()) else
 (a.moved (W64 (a.mx-k.1.1)) (W64 (a.my-k.1.2.1)),b.moved (W64 (b.mx+k.1.1)) (W64 (b.my+k.1.2.1)),0,())
def Bbm (a b:Bm) (re dr:Int):Ced:=Bfe a b (Bqs a b re dr)
def Cn5 (a b:Bm) (k:Bme):Tree Ced :=
 bif k.2.1 != 0 then .leaf (Bce,Bce,k.2.1,()) else
 bif !Bb3 (W64 (a.mx-k.1.1)) (W64 (a.my-k.1.2.1)) then .leaf (Bce,Bce,4,()) else
 bif !Bb3 (W64 (b.mx+k.1.1)) (W64 (b.my+k.1.2.1)) then .leaf (Bce,Bce,4,()) else
 .leaf (a.moved (W64 (a.mx-k.1.1)) (W64 (a.my-k.1.2.1)),b.moved (W64 (b.mx+k.1.1)) (W64 (b.my+k.1.2.1)),0,())
theorem Cn6 (a b:Bm) (k:Bme):(Cn5 a b k).sat (fun y=>y=Bfe a b k):=by
 unfold Cn5 Bfe
 cases k.2.1 != 0 <;> cases Bb3 (W64 (a.mx-k.1.1)) (W64 (a.my-k.1.2.1)) <;> cases Bb3 (W64 (b.mx+k.1.1)) (W64 (b.my+k.1.2.1)) <;> exact rfl
abbrev C3p:PureT:=Bbc [Fq,Baq,Fq,Baq,Bbv] [Baq,Baq,cI] (fun _=>true) (fun x=>D88 (Bbm (bm x.1 x.2.1) (bm x.2.2.1 x.2.2.2.1) x.2.2.2.2.1.1 x.2.2.2.2.1.2.1))
theorem Cn7:Bai Tryz.prog 136 C3p:=Bbd (Bap Bao puN (fns_cons is_Bounce (fns_cons is_Bounce1 (fns_cons is_each No)))) 6
 (fun x=>Cn5 (bm x.1 x.2.1) (bm x.2.2.1 x.2.2.2.1) (Bqs (bm x.1 x.2.1) (bm x.2.2.1 x.2.2.2.1) x.2.2.2.2.1.1 x.2.2.2.2.1.2.1)) (fun x=>by kernel_rfl) fun _ _ _=>Cn6 _ _ _
def dN (a:Bm) (qx qy:Int):Int:=a.mx*(qx-a.px)+a.my*(qy-a.py)
def C3q (a:Bm) (qx qy q re dr:Int):Brg :=
 bif !(a.ok&&(Bil qx qy q&&Bfj re dr)) then (Bce,2,()) else bif !Bfd a.px a.py qx qy (a.r+q) then (Bce,5,()) else bif decide (dN a qx qy≤0) then (Bce,10,()) else
 bif !Bb3 (W64 (a.mx-(kK (qx-a.px) (qy-a.py) a.mx a.my re dr 1).1)) (W64 (a.my-(kK (qx-a.px) (qy-a.py) a.mx a.my re dr 1).2)) then (Bce,4,()) else
 (a.moved (W64 (a.mx-(kK (qx-a.px) (qy-a.py) a.mx a.my re dr 1).1)) (W64 (a.my-(kK (qx-a.px) (qy-a.py) a.mx a.my re dr 1).2)),0,())
def C7s (a:Bm) (qx qy q re dr:Int):Tree Brg :=
 bif okE a.ok != 0 then .leaf (Bce,2,()) else bif Btr qx qy q != 0 then .leaf (Bce,2,()) else bif okE (Bfj re dr)!=0 then .leaf (Bce,2,()) else
 bif fpt a.px a.py&&(fpt qx qy&&decide (0≤W64 (a.r+q)∧W64 (a.r+q)≤131072)) then
 bif !Bfd a.px a.py qx qy (W64 (a.r+q)) then .leaf (Bce,5,()) else
 bif decide (W64 (W64 (W64 (qx-a.px)*a.mx)+W64 (W64 (qy-a.py)*a.my))≤0) then .leaf (Bce,10,()) else
 bif kOk (W64 (qx-a.px)) (W64 (qy-a.py)) a.mx a.my 1 then
 bif !Bb3 (W64 (a.mx-(kK (W64 (qx-a.px)) (W64 (qy-a.py)) a.mx a.my re dr 1).1)) (W64 (a.my-(kK (W64 (qx-a.px)) (W64 (qy-a.py)) a.mx a.my re dr 1).2)) then .leaf (Bce,4,()) else
 .leaf (a.moved (W64 (a.mx-(kK (W64 (qx-a.px)) (W64 (qy-a.py)) a.mx a.my re dr 1).1)) (W64 (a.my-(kK (W64 (qx-a.px)) (W64 (qy-a.py)) a.mx a.my re dr 1).2)),0,())
 else .fail else .fail
theorem Cee (a:Bm) (qx qy q re dr:Int):(C7s a qx qy q re dr).sat (fun y=>y=C3q a qx qy q re dr):=by
 unfold C7s C3q okE Btr
 cases ha:a.ok with
 | false=>exact rfl
 | true=>cases hb:Bil qx qy q with
  | false=>exact rfl
  | true=>cases hc:Bfj re dr with
   | false=>exact rfl
   | true =>
    have fa:=Bm.fit ha
    unfold Bil at hb
    simp only [Bool.and_eq_true,Bool.not_eq_true'] at hb
    obtain ⟨hp,hq⟩:=hb
    have hq':=Bdf hq
    have hp':=hp
    unfold fpt at hp'
    obtain ⟨q1,q2,q3,q4⟩:=of_decide_eq_true hp'
    have p1:=fa.px1;have p2:=fa.px2;have p3:=fa.py1;have p4:=fa.py2
    have c1:=fa.r1;have c2:=fa.r2
    have ⟨e1,e2⟩:=Bc4 (A:=16777216) (B:=8388608) (b:=qx-a.px) fa.mx1 fa.mx2 (by omega) (by omega)
    have ⟨e3,e4⟩:=Bc4 (A:=16777216) (B:=8388608) (b:=qy-a.py) fa.my1 fa.my2 (by omega) (by omega)
    have wr:W64 (a.r+q)=a.r+q:=Bah (by omega) (by omega)
    have wx:W64 (qx-a.px)=qx-a.px:=Bah (by omega) (by omega)
    have wy:W64 (qy-a.py)=qy-a.py:=Bah (by omega) (by omega)
    have wd:W64 (W64 (a.mx*(qx-a.px))+W64 (a.my*(qy-a.py)))=dN a qx qy:=by
     rw [show W64 (a.mx*(qx-a.px))=_ from Bah (by omega) (by omega),show W64 (a.my*(qy-a.py))=_ from Bah (by omega) (by omega)]
     exact Bah (by omega) (by omega)
    rw [wr,wx,wy,Int.mul_comm (qx-a.px) a.mx,Int.mul_comm (qy-a.py) a.my,wd,fa.p,hp,decide_eq_true (show 0≤a.r+q∧a.r+q≤131072 by omega)]
    cases hcl:Bfd a.px a.py qx qy (a.r+q) with
    | false=>exact rfl
    | true =>
     by_cases hd:dN a qx qy≤0
     ·rw [decide_eq_true hd];exact rfl
     ·have hs:1001*1001≤(a.r+q)*(a.r+q):=Bf1 (by omega) (by omega)
      have hcl':=hcl
      unfold Bfd at hcl'
      have hsq:=(of_decide_eq_true hcl').2
      have ⟨g1,g2⟩:=Bc4 (a:=qx-a.px) (b:=qx-a.px) (A:=8388608) (B:=8388608) (by omega) (by omega) (by omega) (by omega)
      have ⟨g3,g4⟩:=Bc4 (a:=qy-a.py) (b:=qy-a.py) (A:=8388608) (B:=8388608) (by omega) (by omega) (by omega) (by omega)
      have hk:kQ (qx-a.px) (qy-a.py)=sq a.px a.py qx qy:=by
       unfold kQ
       rw [show W64 ((qx-a.px)*(qx-a.px))=_ from Bah (by omega) (by omega),show W64 ((qy-a.py)*(qy-a.py))=_ from Bah (by omega) (by omega)]
       exact Bah (by omega) (by omega)
      have hok:kOk (qx-a.px) (qy-a.py) a.mx a.my 1=true:=by
       unfold kOk kD
       rw [hk,wd]
       exact decide_eq_true ⟨by omega,by decide,by omega⟩
      rw [decide_eq_false hd,hok]
      cases Bb3 (W64 (a.mx-(kK (qx-a.px) (qy-a.py) a.mx a.my re dr 1).1)) (W64 (a.my-(kK (qx-a.px) (qy-a.py) a.mx a.my re dr 1).2)) <;> exact rfl
abbrev Cn8:PureT:=Bbc [Fq,Baq,Bag,Bbv] [Baq,cI] (fun _=>true) (fun x=>Cec (C3q (bm x.1 x.2.1) x.2.2.1.1.1 x.2.2.1.1.2.1 x.2.2.1.2.1 x.2.2.2.1.1 x.2.2.2.1.2.1))
theorem D1d:Bai Tryz.prog 138 Cn8:=Bbd (Bap Bao puN (fns_cons is_Bump No)) 6
 (fun x=>C7s (bm x.1 x.2.1) x.2.2.1.1.1 x.2.2.1.1.2.1 x.2.2.1.2.1 x.2.2.2.1.1 x.2.2.2.1.2.1) (fun x=>by kernel_rfl) fun _ _ _=>Cee _ _ _ _ _ _
end V
end Go.Proofs.YtcfanlgpkefogaaGreat
