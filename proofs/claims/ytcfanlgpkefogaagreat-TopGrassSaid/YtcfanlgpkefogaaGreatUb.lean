import Derived.Test.YtcfanlgpkefogaaGreatVC
import Derived.Test.YtcfanlgpkefogaaGreatTV
namespace Go.Proofs.YtcfanlgpkefogaaGreat
open Go.RowKit
namespace V
abbrev Fq:TC:=.st [cI,cI]
abbrev Baq:TC:=.st [cPt,cPt,cPt]
abbrev Bbv:TC:=.st [cI,cI]
theorem is_dot:FnIs Tryz.prog (56,Tryz.f56):=⟨Tryz.func56,by kernel_rfl,by kernel_rfl⟩
theorem is_way:FnIs Tryz.prog (157,Tryz.f157):=⟨Tryz.func157,by kernel_rfl,by kernel_rfl⟩
theorem is_coutside:FnIs Tryz.prog (60,Tryz.f60):=⟨Tryz.func60,by kernel_rfl,by kernel_rfl⟩
theorem is_strong:FnIs Tryz.prog (59,Tryz.f59):=⟨Tryz.func59,by kernel_rfl,by kernel_rfl⟩
theorem is_close:FnIs Tryz.prog (156,Tryz.f156):=⟨Tryz.func156,by kernel_rfl,by kernel_rfl⟩
abbrev Cwq:PureT:=Bbc [cPt,cPt] [cI] (fun _=>true) (fun x=>(W64 (W64 (x.1.1*x.2.1.1)+W64 (x.1.2.1*x.2.1.2.1)),()))
theorem D5f:Bai Tryz.prog 56 Cwq:=C8k (Bap Bao puOk_nil (fns_cons is_dot No)) 2 (fun x=>by kernel_rfl)
abbrev Cwr:PureT:=Bbc [cPt,cPt] [cPt] (fun _=>true) (fun x=>((W64 (x.2.1.1-x.1.1),W64 (x.2.1.2.1-x.1.2.1),()),()))
theorem D5g:Bai Tryz.prog 157 Cwr:=C8k (Bap Bao puOk_nil (fns_cons is_way No)) 2 (fun x=>by kernel_rfl)
abbrev Cws:PureT:=Bbc [cI,cI,cI] [.b] (fun _=>true) (fun x=>(Bb6 x.1 x.2.1 x.2.2.1,()))
theorem Bn1:Bai Tryz.prog 60 Cws:=pureOk_of_ev (Bap Bao puOk_nil (fns_cons is_coutside No)) 2 fun x _ _=>by
 obtain ⟨a,b,c,_⟩:=x
 refine C8r (t:=bif decide (a<b) then .leaf (true,()) else .leaf (decide (a>c),())) (by kernel_rfl) ?_
 refine Bb4 (fun h=>?_) (fun h=>?_) <;> refine Ban ?_ <;> (show _=(Bb6 a b c,());unfold Bb6;rw [h];rfl)
abbrev C3j:PureT:=Bbc [cI,cI,cI] [.b] (fun _=>true) (fun x=>(!Bb6 x.1 x.2.1 x.2.2.1,()))
def Btt (a b c:Int):Tree (Bool×Unit):=bif decide (a≥b) then .leaf (decide (a≤c),()) else .leaf (false,())
theorem C3k (a b c:Int):(Btt a b c).sat (fun y=>y=(!Bb6 a b c,())):=by
 unfold Btt Bb6
 refine Bb4 (fun h=>Ban ?_) (fun h=>Ban ?_)
 ·have h':=of_decide_eq_true h
  by_cases k:c<a
  ·rw [decide_eq_true k,decide_eq_false (show ¬ a≤c by omega)];simp
  ·rw [decide_eq_false k,decide_eq_true (show a≤c by omega),decide_eq_false (show ¬ a<b by omega)];rfl
 ·have h':=of_decide_eq_false h
  rw [decide_eq_true (show a<b by omega)];rfl
def Bb3 (x y:Int):Bool:=!Bb6 x (-16777216) 16777216&&!Bb6 y (-16777216) 16777216
abbrev Boa:PureT:=Bbc [cPt] [.b] (fun _=>true) (fun x=>(Bb3 x.1.1 x.1.2.1,()))
def Bob (a b:Int):Tree (Bool×Unit):=bif !Bb6 a (-16777216) 16777216 then .leaf (!Bb6 b (-16777216) 16777216,()) else .leaf (false,())
theorem Bqq (a b:Int):(Bob a b).sat (fun y=>y=(Bb3 a b,())):=by
 unfold Bob Bb3
 cases !Bb6 a (-16777216) 16777216 <;> exact rfl
theorem Cmz:Bai Tryz.prog 59 Boa:=Bbd (Bap Bao (puOk_cons is_coutside.plain Bn1 puOk_nil) (fns_cons is_strong No)) 2 (fun x=>Bob x.1.1 x.1.2.1) (fun x=>by kernel_rfl) fun x _ _=>Bqq _ _
def Bfd (px py qx qy s:Int):Bool:=decide (sq px py qx qy≤s*s∧225*(s*s)≤256*sq px py qx qy)
abbrev Cu2 (x:TCTs [cPt,cPt,cI]):Bool:=fpt x.1.1 x.1.2.1&&(fpt x.2.1.1 x.2.1.2.1&&decide (0≤x.2.2.1∧x.2.2.1≤131072))
abbrev Cbf:PureT:=Bbc [cPt,cPt,cI] [.b] Cu2 (fun x=>(Bfd x.1.1 x.1.2.1 x.2.1.1 x.2.1.2.1 x.2.2.1,()))
theorem D19 {px py qx qy:Int} (h:fpt px py=true) (k:fpt qx qy=true):0≤sq px py qx qy∧sq px py qx qy≤140737488355328:=by
 unfold fpt at h k
 obtain ⟨h1,h2,h3,h4⟩:=of_decide_eq_true h
 obtain ⟨k1,k2,k3,k4⟩:=of_decide_eq_true k
 unfold sq
 have a1:=Bh0 (qx-px)
 have a2:=Bh0 (qy-py)
 have b1:(qx-px)*(qx-px)≤8388608*8388608:=by
  rcases Int.le_total 0 (qx-px) with c | c
  ·exact Bf1 c (by omega)
  ·have:=Bf1 (a := -(qx-px)) (b:=8388608) (by omega) (by omega)
   rwa [Int.neg_mul_neg] at this
 have b2:(qy-py)*(qy-py)≤8388608*8388608:=by
  rcases Int.le_total 0 (qy-py) with c | c
  ·exact Bf1 c (by omega)
  ·have:=Bf1 (a := -(qy-py)) (b:=8388608) (by omega) (by omega)
   rwa [Int.neg_mul_neg] at this
 omega
theorem D1a {s:Int} (h0:0≤s) (h1:s≤131072):0≤s*s∧s*s≤17179869184:=⟨Bh0 s,Int.mul_le_mul h1 h1 h0 (by omega)⟩
def Bzm (px py qx qy s:Int):Tree (Bool×Unit):=.leaf (!Bb6 (W64 (256*(SqR px py qx qy).1)) (W64 (W64 (225*s)*s)) (W64 (W64 (256*s)*s)),())
theorem C7l (px py qx qy s:Int) (hok:(fpt px py&&(fpt qx qy&&decide (0≤s∧s≤131072)))=true):(Bzm px py qx qy s).sat (fun y=>y=(Bfd px py qx qy s,())):=by
 simp only [Bool.and_eq_true] at hok
 obtain ⟨h1,h2,h3⟩:=hok
 obtain ⟨h3,h4⟩:=of_decide_eq_true h3
 have hs:(SqR px py qx qy).1=sq px py qx qy:=by unfold SqR;rw [h1,h2];rfl
 have ⟨b1,b2⟩:=D19 h1 h2
 have ⟨b3,b4⟩:=D1a h3 h4
 unfold Bzm
 rw [hs]
 refine Ban ?_
 have e1:W64 (W64 (225*s)*s)=225*(s*s):=by
  rw [show W64 (225*s)=225*s from Bah (by omega) (by omega),Int.mul_assoc];exact Bah (by omega) (by omega)
 have e2:W64 (W64 (256*s)*s)=256*(s*s):=by
  rw [show W64 (256*s)=256*s from Bah (by omega) (by omega),Int.mul_assoc];exact Bah (by omega) (by omega)
 rw [e1,e2,show W64 (256*sq px py qx qy)=256*sq px py qx qy from Bah (by omega) (by omega)]
 unfold Bb6 Bfd
 generalize sq px py qx qy=d
 generalize s*s=t
 by_cases c1:d≤t
 ·by_cases c2:225*t≤256*d
  ·rw [decide_eq_false (show ¬ 256*d<225*t by omega),decide_eq_false (show ¬ 256*t<256*d by omega),decide_eq_true (⟨c1,c2⟩:d≤t∧225*t≤256*d)];rfl
  ·rw [decide_eq_true (show 256*d<225*t by omega),decide_eq_false (fun h:d≤t∧225*t≤256*d=>c2 h.2)];rfl
 ·rw [decide_eq_true (show 256*t<256*d by omega),decide_eq_false (fun h:d≤t∧225*t≤256*d=>c1 h.1)];simp
theorem Cu3:Bai Tryz.prog 156 Cbf:=Bbd (Bap Bao (puOk_cons is_coutside.plain Bn1 (puOk_cons is_Square.plain Cmw puOk_nil)) (fns_cons is_close No)) 2 (fun x=>Bzm x.1.1 x.1.2.1 x.2.1.1 x.2.1.2.1 x.2.2.1) (fun x=>by kernel_rfl) fun _ hok _=>C7l _ _ _ _ _ hok
end V
end Go.Proofs.YtcfanlgpkefogaaGreat
