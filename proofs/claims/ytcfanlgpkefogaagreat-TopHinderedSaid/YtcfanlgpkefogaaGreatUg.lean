import Derived.Test.YtcfanlgpkefogaaGreatUf
namespace Go.Proofs.YtcfanlgpkefogaaGreat
open Go.RowKit
namespace V
theorem is_Step:FnIs Tryz.prog (39,Tryz.f39):=⟨Tryz.func39,by kernel_rfl,by kernel_rfl⟩
theorem is_steps:FnIs Tryz.prog (62,Tryz.f62):=⟨Tryz.func62,by kernel_rfl,by kernel_rfl⟩
theorem is_rollstep:FnIs Tryz.prog (106,Tryz.f106):=⟨Tryz.func106,by kernel_rfl,by kernel_rfl⟩
theorem is_rollstep1:FnIs Tryz.prog (140,Tryz.f140):=⟨Tryz.func140,by kernel_rfl,by kernel_rfl⟩
theorem is_each:FnIs Tryz.prog (139,Tryz.f139):=⟨Tryz.func139,by kernel_rfl,by kernel_rfl⟩
theorem is_each1:FnIs Tryz.prog (159,Tryz.f159):=⟨Tryz.func159,by kernel_rfl,by kernel_rfl⟩
theorem is_each2:FnIs Tryz.prog (160,Tryz.f160):=⟨Tryz.func160,by kernel_rfl,by kernel_rfl⟩
theorem Cfo:Bai Tryz.prog 159 (Bpy 0):=D32 (Bas Bar puOk_nil (fns_cons is_each1 V1)) 2 (fun id row st col=>by kernel_rfl)
theorem Cfp:Bai Tryz.prog 160 (Bpy 1):=D32 (Bas Bar puOk_nil (fns_cons is_each2 V1)) 2 (fun id row st col=>by kernel_rfl)
def plS:List (Nat×PureT):=(159,Bpy 0)::(160,Bpy 1)::(38,C65)::plK
theorem puS:Bcd Tryz.prog plS:=puOk_cons is_each1.plain Cfo (puOk_cons is_each2.plain Cfp (puOk_cons is_Divide.plain Cre puK))
abbrev Cb0:=TCTs [Bat,cI]
abbrev Bci:TCT Bat:=((0,0,()),(0,0,()),(0,0,()),())
def sX (a:Bm):Int:=a.px+DW (a.mx+a.rx) (64*a.m)
def sY (a:Bm):Int:=a.py+DW (a.my+a.ry) (64*a.m)
def Bhe (a:Bm):Cb0:=bif !a.ok then (Bci,2,()) else bif !fpt (sX a) (sY a) then (Bci,4,()) else
 (((sX a,sY a,()),(a.mx,a.my,()),(DR (a.mx+a.rx) (64*a.m),DR (a.my+a.ry) (64*a.m),()),()),0,())
def Cb1 (a:Bm):Tree Cb0 :=
 bif okE a.ok != 0 then .leaf (Bci,okE a.ok,()) else
 bif !Bgi (W64 (a.px+DvW (W64 (a.mx+a.rx)) (W64 (64*a.m)))) (W64 (a.py+DvW (W64 (a.my+a.ry)) (W64 (64*a.m))))==0 then .leaf (Bci,4,()) else
 .leaf (((W64 (a.px+DvW (W64 (a.mx+a.rx)) (W64 (64*a.m))),W64 (a.py+DvW (W64 (a.my+a.ry)) (W64 (64*a.m))),()),(a.mx,a.my,()),
  (DvR (W64 (a.mx+a.rx)) (W64 (64*a.m)),DvR (W64 (a.my+a.ry)) (W64 (64*a.m)),()),()),0,())
structure StepW (a:Bm):Prop where
 w1:W64 (a.mx+a.rx)=a.mx+a.rx
 w2:W64 (a.my+a.ry)=a.my+a.ry
 w3:W64 (64*a.m)=64*a.m
 d1:Bjc (a.mx+a.rx) (64*a.m)=true
 d2:Bjc (a.my+a.ry) (64*a.m)=true
 x:W64 (a.px+DW (a.mx+a.rx) (64*a.m))=sX a
 y:W64 (a.py+DW (a.my+a.ry) (64*a.m))=sY a
 v1:DvW (a.mx+a.rx) (64*a.m)=DW (a.mx+a.rx) (64*a.m)
 v2:DvW (a.my+a.ry) (64*a.m)=DW (a.my+a.ry) (64*a.m)
 v3:DvR (a.mx+a.rx) (64*a.m)=DR (a.mx+a.rx) (64*a.m)
 v4:DvR (a.my+a.ry) (64*a.m)=DR (a.my+a.ry) (64*a.m)
theorem Dce {a:Bm} (h:a.Fit):StepW a:=by
 obtain ⟨m1,m2,r1,r2,p,px1,px2,py1,py2,mx1,mx2,my1,my2,rx1,rx2,ry1,ry2⟩:=h
 have ⟨b1,b2⟩:=Cf6 (a.mx+a.rx) (64*a.m) 33554432 (by omega) (by omega) (by omega) (by omega)
 have ⟨b3,b4⟩:=Cf6 (a.my+a.ry) (64*a.m) 33554432 (by omega) (by omega) (by omega) (by omega)
 have ⟨c1,c2,_⟩:=Cqz (a.mx+a.rx) (64*a.m) (by omega) (by omega) (by omega) (by omega)
 have ⟨c3,c4,_⟩:=Cqz (a.my+a.ry) (64*a.m) (by omega) (by omega) (by omega) (by omega)
 exact ⟨Fp (by omega) (by omega),Fp (by omega) (by omega),Fp (by omega) (by omega),decide_eq_true (by omega),decide_eq_true (by omega),
  Fp (by omega) (by omega),Fp (by omega) (by omega),c1,c3,c2,c4⟩
theorem Cii (a:Bm):(Cb1 a).sat (fun y=>y=Bhe a):=by
 unfold Cb1 Bhe okE
 cases ha:a.ok with
 | false=>exact rfl
 | true =>
  have w:=Dce (Bm.fit ha)
  rw [w.w1,w.w2,w.w3,w.v1,w.v2,w.v3,w.v4,w.x,w.y]
  unfold Bgi
  cases fpt (sX a) (sY a) <;> exact rfl
abbrev etaS (y:TCT Bat):TCT Bat:=((y.1.1,y.1.2.1,()),(y.2.1.1,y.2.1.2.1,()),(y.2.2.1.1,y.2.2.1.2.1,()),())
abbrev Dcf (y:Cb0):Cb0:=(etaS y.1,y.2.1,())
abbrev Cs4:PureT:=Bbh [No,Bat] [Bat,cI] (fun _=>true) (fun x=>Dcf (Bhe (bm x.1 x.2.1)))
theorem D7k:Bai Tryz.prog 39 Cs4:=Bbj (Bas Bar puS (fns_cons is_Step (fns_cons is_steps (fns_cons is_rollstep (fns_cons is_rollstep1 (fns_cons is_each V1)))))) 8
 (fun x=>Cb1 (bm x.1 x.2.1)) (fun x=>by kernel_rfl) fun _ _ _=>Cii _
end V
end Go.Proofs.YtcfanlgpkefogaaGreat
