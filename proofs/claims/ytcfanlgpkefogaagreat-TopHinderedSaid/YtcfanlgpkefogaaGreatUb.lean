import Derived.Test.YtcfanlgpkefogaaGreatVC
import Derived.Test.YtcfanlgpkefogaaGreatTV
namespace Go.Proofs.YtcfanlgpkefogaaGreat
open Go.RowKit
namespace V
abbrev No:TC:=.st [cI,cI]
abbrev Bat:TC:=.st [cPt,cPt,cPt]
abbrev Bbv:TC:=.st [cI,cI]
theorem is_dot:FnIs Tryz.prog (56,Tryz.f56):=⟨Tryz.func56,by kernel_rfl,by kernel_rfl⟩
theorem is_way:FnIs Tryz.prog (157,Tryz.f157):=⟨Tryz.func157,by kernel_rfl,by kernel_rfl⟩
theorem is_coutside:FnIs Tryz.prog (60,Tryz.f60):=⟨Tryz.func60,by kernel_rfl,by kernel_rfl⟩
theorem is_strong:FnIs Tryz.prog (59,Tryz.f59):=⟨Tryz.func59,by kernel_rfl,by kernel_rfl⟩
theorem is_close:FnIs Tryz.prog (156,Tryz.f156):=⟨Tryz.func156,by kernel_rfl,by kernel_rfl⟩
abbrev D2s:PureT:=Bbh [cPt,cPt] [cI] (fun _=>true) (fun x=>(W64 (W64 (x.1.1*x.2.1.1)+W64 (x.1.2.1*x.2.1.2.1)),()))
theorem Dcb:Bai Tryz.prog 56 D2s:=C2q (Bas Bar puOk_nil (fns_cons is_dot V1)) 2 (fun x=>by kernel_rfl)
abbrev D2t:PureT:=Bbh [cPt,cPt] [cPt] (fun _=>true) (fun x=>((W64 (x.2.1.1-x.1.1),W64 (x.2.1.2.1-x.1.2.1),()),()))
theorem Dcc:Bai Tryz.prog 157 D2t:=C2q (Bas Bar puOk_nil (fns_cons is_way V1)) 2 (fun x=>by kernel_rfl)
abbrev D2u:PureT:=Bbh [cI,cI,cI] [.b] (fun _=>true) (fun x=>(Bb8 x.1 x.2.1 x.2.2.1,()))
theorem Bo0:Bai Tryz.prog 60 D2u:=pureOk_of_ev (Bas Bar puOk_nil (fns_cons is_coutside V1)) 2 fun x _ _=>by
 obtain ⟨a,b,c,_⟩:=x
 refine Cbw (t:=bif decide (a<b) then .leaf (true,()) else .leaf (decide (a>c),())) (by kernel_rfl) ?_
 refine Bb6 (fun h=>?_) (fun h=>?_) <;> refine Baq ?_ <;> (show _=(Bb8 a b c,());unfold Bb8;rw [h];rfl)
abbrev C68:PureT:=Bbh [cI,cI,cI] [.b] (fun _=>true) (fun x=>(!Bb8 x.1 x.2.1 x.2.2.1,()))
def Bvm (a b c:Int):Tree (Bool×Unit):=bif decide (a≥b) then .leaf (decide (a≤c),()) else .leaf (false,())
theorem C69 (a b c:Int):(Bvm a b c).sat (fun y=>y=(!Bb8 a b c,())):=by
 unfold Bvm Bb8
 refine Bb6 (fun h=>Baq ?_) (fun h=>Baq ?_)
 ·have h':=of_decide_eq_true h
  by_cases k:c<a
  ·rw [decide_eq_true k,decide_eq_false (show ¬ a≤c by omega)];simp
  ·rw [decide_eq_false k,decide_eq_true (show a≤c by omega),decide_eq_false (show ¬ a<b by omega)];rfl
 ·have h':=of_decide_eq_false h
  rw [decide_eq_true (show a<b by omega)];rfl
def Bb3 (x y:Int):Bool:=!Bb8 x (-16777216) 16777216&&!Bb8 y (-16777216) 16777216
abbrev Bpe:PureT:=Bbh [cPt] [.b] (fun _=>true) (fun x=>(Bb3 x.1.1 x.1.2.1,()))
def Bpf (a b:Int):Tree (Bool×Unit):=bif !Bb8 a (-16777216) 16777216 then .leaf (!Bb8 b (-16777216) 16777216,()) else .leaf (false,())
theorem Bs2 (a b:Int):(Bpf a b).sat (fun y=>y=(Bb3 a b,())):=by
 unfold Bpf Bb3
 cases !Bb8 a (-16777216) 16777216 <;> exact rfl
theorem Crz:Bai Tryz.prog 59 Bpe:=Bbj (Bas Bar (puOk_cons is_coutside.plain Bo0 puOk_nil) (fns_cons is_strong V1)) 2 (fun x=>Bpf x.1.1 x.1.2.1) (fun x=>by kernel_rfl) fun x _ _=>Bs2 _ _
def Bcv (px py qx qy s:Int):Bool:=decide (sq px py qx qy≤s*s∧225*(s*s)≤256*sq px py qx qy)
abbrev Czv (x:TCTs [cPt,cPt,cI]):Bool:=fpt x.1.1 x.1.2.1&&(fpt x.2.1.1 x.2.1.2.1&&decide (0≤x.2.2.1∧x.2.2.1≤131072))
abbrev Cfj:PureT:=Bbh [cPt,cPt,cI] [.b] Czv (fun x=>(Bcv x.1.1 x.1.2.1 x.2.1.1 x.2.1.2.1 x.2.2.1,()))
theorem D7h {px py qx qy:Int} (h:fpt px py=true) (k:fpt qx qy=true):0≤sq px py qx qy∧sq px py qx qy≤140737488355328:=by
 unfold fpt at h k
 obtain ⟨h1,h2,h3,h4⟩:=of_decide_eq_true h
 obtain ⟨k1,k2,k3,k4⟩:=of_decide_eq_true k
 unfold sq
 have a1:=Bg1 (qx-px)
 have a2:=Bg1 (qy-py)
 have b1:(qx-px)*(qx-px)≤8388608*8388608:=by
  rcases Int.le_total 0 (qx-px) with c | c
  ·exact Bdr c (by omega)
  ·have:=Bdr (a := -(qx-px)) (b:=8388608) (by omega) (by omega)
   rwa [Int.neg_mul_neg] at this
 have b2:(qy-py)*(qy-py)≤8388608*8388608:=by
  rcases Int.le_total 0 (qy-py) with c | c
  ·exact Bdr c (by omega)
  ·have:=Bdr (a := -(qy-py)) (b:=8388608) (by omega) (by omega)
   rwa [Int.neg_mul_neg] at this
 omega
theorem D7i {s:Int} (h0:0≤s) (h1:s≤131072):0≤s*s∧s*s≤17179869184:=⟨Bg1 s,Int.mul_le_mul h1 h1 h0 (by omega)⟩
def C20 (px py qx qy s:Int):Tree (Bool×Unit):=.leaf (!Bb8 (W64 (256*(SqR px py qx qy).1)) (W64 (W64 (225*s)*s)) (W64 (W64 (256*s)*s)),())
theorem Cav (px py qx qy s:Int) (hok:(fpt px py&&(fpt qx qy&&decide (0≤s∧s≤131072)))=true):(C20 px py qx qy s).sat (fun y=>y=(Bcv px py qx qy s,())):=by
 simp only [Bool.and_eq_true] at hok
 obtain ⟨h1,h2,h3⟩:=hok
 obtain ⟨h3,h4⟩:=of_decide_eq_true h3
 have hs:(SqR px py qx qy).1=sq px py qx qy:=by unfold SqR;rw [h1,h2];rfl
 have ⟨b1,b2⟩:=D7h h1 h2
 have ⟨b3,b4⟩:=D7i h3 h4
 unfold C20
 rw [hs]
 refine Baq ?_
 have e1:W64 (W64 (225*s)*s)=225*(s*s):=by
  rw [show W64 (225*s)=225*s from Fp (by omega) (by omega),Int.mul_assoc];exact Fp (by omega) (by omega)
 have e2:W64 (W64 (256*s)*s)=256*(s*s):=by
  rw [show W64 (256*s)=256*s from Fp (by omega) (by omega),Int.mul_assoc];exact Fp (by omega) (by omega)
 rw [e1,e2,show W64 (256*sq px py qx qy)=256*sq px py qx qy from Fp (by omega) (by omega)]
 unfold Bb8 Bcv
 generalize sq px py qx qy=d
 generalize s*s=t
 by_cases c1:d≤t
 ·by_cases c2:225*t≤256*d
  ·rw [decide_eq_false (show ¬ 256*d<225*t by omega),decide_eq_false (show ¬ 256*t<256*d by omega),decide_eq_true (⟨c1,c2⟩:d≤t∧225*t≤256*d)];rfl
  ·rw [decide_eq_true (show 256*d<225*t by omega),decide_eq_false (fun h:d≤t∧225*t≤256*d=>c2 h.2)];rfl
 ·rw [decide_eq_true (show 256*t<256*d by omega),decide_eq_false (fun h:d≤t∧225*t≤256*d=>c1 h.1)];simp
theorem Czw:Bai Tryz.prog 156 Cfj:=Bbj (Bas Bar (puOk_cons is_coutside.plain Bo0 (puOk_cons is_Square.plain Crx puOk_nil)) (fns_cons is_close V1)) 2 (fun x=>C20 x.1.1 x.1.2.1 x.2.1.1 x.2.1.2.1 x.2.2.1) (fun x=>by kernel_rfl) fun _ hok _=>Cav _ _ _ _ _ hok
end V
end Go.Proofs.YtcfanlgpkefogaaGreat
