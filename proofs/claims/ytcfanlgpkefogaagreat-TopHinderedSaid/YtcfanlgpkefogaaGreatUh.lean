import Derived.Test.YtcfanlgpkefogaaGreatUg
namespace Go.Proofs.YtcfanlgpkefogaaGreat
open Go.RowKit
namespace V
theorem is_Bounce:FnIs Tryz.prog (136,Tryz.f136):=⟨Tryz.func136,by kernel_rfl,by kernel_rfl⟩
theorem is_Bounce1:FnIs Tryz.prog (154,Tryz.f154):=⟨Tryz.func154,by kernel_rfl,by kernel_rfl⟩
theorem is_Bump:FnIs Tryz.prog (138,Tryz.f138):=⟨Tryz.func138,by kernel_rfl,by kernel_rfl⟩
def plN:List (Nat×PureT):=(159,Bpy 0)::(160,Bpy 1)::(153,Cs3)::(155,Bs0)::plK
theorem puN:Bcd Tryz.prog plN:=puOk_cons is_each1.plain Cfo (puOk_cons is_each2.plain Cfp (puOk_cons is_Kick.plain D7j (puOk_cons is_CheckDisc.plain Bs1 puK)))
abbrev Cb2:=TCTs [Bat,Bat,cI]
abbrev Dfl (y:Cb2):Cb2:=(etaS y.1,etaS y.2.1,y.2.2.1,())
def Bm.moved (a:Bm) (x y:Int):TCT Bat:=((a.px,a.py,()),(x,y,()),(a.rx,a.ry,()),())
def Bf9 (a b:Bm) (k:Bky):Cb2 :=
 bif k.2.1 != 0 then (Bci,Bci,k.2.1,()) else
 bif !Bb3 (W64 (a.mx-k.1.1)) (W64 (a.my-k.1.2.1)) then (Bci,Bci,4,()) else
 bif !Bb3 (W64 (b.mx+k.1.1)) (W64 (b.my+k.1.2.1)) then (Bci,Bci,4,()) else
 (a.moved (W64 (a.mx-k.1.1)) (W64 (a.my-k.1.2.1)),b.moved (W64 (b.mx+k.1.1)) (W64 (b.my+k.1.2.1)),0,())
def Bbi (a b:Bm) (re dr:Int):Cb2:=Bf9 a b (Bln a b re dr)
def Cs5 (a b:Bm) (k:Bky):Tree Cb2 :=
 bif k.2.1 != 0 then .leaf (Bci,Bci,k.2.1,()) else
 bif !Bb3 (W64 (a.mx-k.1.1)) (W64 (a.my-k.1.2.1)) then .leaf (Bci,Bci,4,()) else
 bif !Bb3 (W64 (b.mx+k.1.1)) (W64 (b.my+k.1.2.1)) then .leaf (Bci,Bci,4,()) else
 .leaf (a.moved (W64 (a.mx-k.1.1)) (W64 (a.my-k.1.2.1)),b.moved (W64 (b.mx+k.1.1)) (W64 (b.my+k.1.2.1)),0,())
theorem Cs6 (a b:Bm) (k:Bky):(Cs5 a b k).sat (fun y=>y=Bf9 a b k):=by
 unfold Cs5 Bf9
 cases k.2.1 != 0 <;> cases Bb3 (W64 (a.mx-k.1.1)) (W64 (a.my-k.1.2.1)) <;> cases Bb3 (W64 (b.mx+k.1.1)) (W64 (b.my+k.1.2.1)) <;> exact rfl
abbrev C6f:PureT:=Bbh [No,Bat,No,Bat,Bbv] [Bat,Bat,cI] (fun _=>true) (fun x=>Dfl (Bbi (bm x.1 x.2.1) (bm x.2.2.1 x.2.2.2.1) x.2.2.2.2.1.1 x.2.2.2.2.1.2.1))
theorem Cs7:Bai Tryz.prog 136 C6f:=Bbj (Bas Bar puN (fns_cons is_Bounce (fns_cons is_Bounce1 (fns_cons is_each V1)))) 6
 (fun x=>Cs5 (bm x.1 x.2.1) (bm x.2.2.1 x.2.2.2.1) (Bln (bm x.1 x.2.1) (bm x.2.2.1 x.2.2.2.1) x.2.2.2.2.1.1 x.2.2.2.2.1.2.1)) (fun x=>by kernel_rfl) fun _ _ _=>Cs6 _ _ _
def dN (a:Bm) (qx qy:Int):Int:=a.mx*(qx-a.px)+a.my*(qy-a.py)
def Bs4 (a:Bm) (qx qy q re dr:Int):Cb0 :=
 bif !(a.ok&&(Bh9 qx qy q&&Be3 re dr)) then (Bci,2,()) else bif !Bcv a.px a.py qx qy (a.r+q) then (Bci,5,()) else bif decide (dN a qx qy≤0) then (Bci,10,()) else
 bif !Bb3 (W64 (a.mx-(kK (qx-a.px) (qy-a.py) a.mx a.my re dr 1).1)) (W64 (a.my-(kK (qx-a.px) (qy-a.py) a.mx a.my re dr 1).2)) then (Bci,4,()) else
 (a.moved (W64 (a.mx-(kK (qx-a.px) (qy-a.py) a.mx a.my re dr 1).1)) (W64 (a.my-(kK (qx-a.px) (qy-a.py) a.mx a.my re dr 1).2)),0,())
def Cb3 (a:Bm) (qx qy q re dr:Int):Tree Cb0 :=
 bif okE a.ok != 0 then .leaf (Bci,2,()) else bif Bvk qx qy q != 0 then .leaf (Bci,2,()) else bif okE (Be3 re dr)!=0 then .leaf (Bci,2,()) else
 bif fpt a.px a.py&&(fpt qx qy&&decide (0≤W64 (a.r+q)∧W64 (a.r+q)≤131072)) then
 bif !Bcv a.px a.py qx qy (W64 (a.r+q)) then .leaf (Bci,5,()) else
 bif decide (W64 (W64 (W64 (qx-a.px)*a.mx)+W64 (W64 (qy-a.py)*a.my))≤0) then .leaf (Bci,10,()) else
 bif kOk (W64 (qx-a.px)) (W64 (qy-a.py)) a.mx a.my 1 then
 bif !Bb3 (W64 (a.mx-(kK (W64 (qx-a.px)) (W64 (qy-a.py)) a.mx a.my re dr 1).1)) (W64 (a.my-(kK (W64 (qx-a.px)) (W64 (qy-a.py)) a.mx a.my re dr 1).2)) then .leaf (Bci,4,()) else
 .leaf (a.moved (W64 (a.mx-(kK (W64 (qx-a.px)) (W64 (qy-a.py)) a.mx a.my re dr 1).1)) (W64 (a.my-(kK (W64 (qx-a.px)) (W64 (qy-a.py)) a.mx a.my re dr 1).2)),0,())
 else .fail else .fail
theorem Cij (a:Bm) (qx qy q re dr:Int):(Cb3 a qx qy q re dr).sat (fun y=>y=Bs4 a qx qy q re dr):=by
 unfold Cb3 Bs4 okE Bvk
 cases ha:a.ok with
 | false=>exact rfl
 | true=>cases hb:Bh9 qx qy q with
  | false=>exact rfl
  | true=>cases hc:Be3 re dr with
   | false=>exact rfl
   | true =>
    have fa:=Bm.fit ha
    unfold Bh9 at hb
    simp only [Bool.and_eq_true,Bool.not_eq_true'] at hb
    obtain ⟨hp,hq⟩:=hb
    have hq':=Bcj hq
    have hp':=hp
    unfold fpt at hp'
    obtain ⟨q1,q2,q3,q4⟩:=of_decide_eq_true hp'
    have p1:=fa.px1;have p2:=fa.px2;have p3:=fa.py1;have p4:=fa.py2
    have c1:=fa.r1;have c2:=fa.r2
    have ⟨e1,e2⟩:=Bb5 (A:=16777216) (B:=8388608) (b:=qx-a.px) fa.mx1 fa.mx2 (by omega) (by omega)
    have ⟨e3,e4⟩:=Bb5 (A:=16777216) (B:=8388608) (b:=qy-a.py) fa.my1 fa.my2 (by omega) (by omega)
    have wr:W64 (a.r+q)=a.r+q:=Fp (by omega) (by omega)
    have wx:W64 (qx-a.px)=qx-a.px:=Fp (by omega) (by omega)
    have wy:W64 (qy-a.py)=qy-a.py:=Fp (by omega) (by omega)
    have wd:W64 (W64 (a.mx*(qx-a.px))+W64 (a.my*(qy-a.py)))=dN a qx qy:=by
     rw [show W64 (a.mx*(qx-a.px))=_ from Fp (by omega) (by omega),show W64 (a.my*(qy-a.py))=_ from Fp (by omega) (by omega)]
     exact Fp (by omega) (by omega)
    rw [wr,wx,wy,Int.mul_comm (qx-a.px) a.mx,Int.mul_comm (qy-a.py) a.my,wd,fa.p,hp,decide_eq_true (show 0≤a.r+q∧a.r+q≤131072 by omega)]
    cases hcl:Bcv a.px a.py qx qy (a.r+q) with
    | false=>exact rfl
    | true =>
     by_cases hd:dN a qx qy≤0
     ·rw [decide_eq_true hd];exact rfl
     ·have hs:1001*1001≤(a.r+q)*(a.r+q):=Bdr (by omega) (by omega)
      have hcl':=hcl
      unfold Bcv at hcl'
      have hsq:=(of_decide_eq_true hcl').2
      have ⟨g1,g2⟩:=Bb5 (a:=qx-a.px) (b:=qx-a.px) (A:=8388608) (B:=8388608) (by omega) (by omega) (by omega) (by omega)
      have ⟨g3,g4⟩:=Bb5 (a:=qy-a.py) (b:=qy-a.py) (A:=8388608) (B:=8388608) (by omega) (by omega) (by omega) (by omega)
      have hk:kQ (qx-a.px) (qy-a.py)=sq a.px a.py qx qy:=by
       unfold kQ
       rw [show W64 ((qx-a.px)*(qx-a.px))=_ from Fp (by omega) (by omega),show W64 ((qy-a.py)*(qy-a.py))=_ from Fp (by omega) (by omega)]
       exact Fp (by omega) (by omega)
      have hok:kOk (qx-a.px) (qy-a.py) a.mx a.my 1=true:=by
       unfold kOk kD
       rw [hk,wd]
       exact decide_eq_true ⟨by omega,by decide,by omega⟩
      rw [decide_eq_false hd,hok]
      cases Bb3 (W64 (a.mx-(kK (qx-a.px) (qy-a.py) a.mx a.my re dr 1).1)) (W64 (a.my-(kK (qx-a.px) (qy-a.py) a.mx a.my re dr 1).2)) <;> exact rfl
abbrev Cs8:PureT:=Bbh [No,Bat,Baf,Bbv] [Bat,cI] (fun _=>true) (fun x=>Dcf (Bs4 (bm x.1 x.2.1) x.2.2.1.1.1 x.2.2.1.1.2.1 x.2.2.1.2.1 x.2.2.2.1.1 x.2.2.2.1.2.1))
theorem D7l:Bai Tryz.prog 138 Cs8:=Bbj (Bas Bar puN (fns_cons is_Bump V1)) 6
 (fun x=>Cb3 (bm x.1 x.2.1) x.2.2.1.1.1 x.2.2.1.1.2.1 x.2.2.1.2.1 x.2.2.2.1.1 x.2.2.2.1.2.1) (fun x=>by kernel_rfl) fun _ _ _=>Cij _ _ _ _ _ _
end V
end Go.Proofs.YtcfanlgpkefogaaGreat
