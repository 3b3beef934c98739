import Derived.Test.YtcfanlgpkefogaaGreatVC
import Derived.Test.YtcfanlgpkefogaaGreatTV
namespace Go.Proofs.YtcfanlgpkefogaaGreat
open Go.RowKit
namespace V
abbrev A3:TC:=.st [cI,cI]
abbrev Bd:TC:=.st [cPt,cPt,cPt]
abbrev Co:TC:=.st [cI,cI]
theorem is_dot:FnIs Tryz.prog (56,Tryz.f56):=⟨Tryz.func56,by kernel_rfl,by kernel_rfl⟩
theorem is_way:FnIs Tryz.prog (157,Tryz.f157):=⟨Tryz.func157,by kernel_rfl,by kernel_rfl⟩
theorem is_coutside:FnIs Tryz.prog (60,Tryz.f60):=⟨Tryz.func60,by kernel_rfl,by kernel_rfl⟩
theorem is_strong:FnIs Tryz.prog (59,Tryz.f59):=⟨Tryz.func59,by kernel_rfl,by kernel_rfl⟩
theorem is_close:FnIs Tryz.prog (156,Tryz.f156):=⟨Tryz.func156,by kernel_rfl,by kernel_rfl⟩
abbrev B81:PureT:=Bv [cPt,cPt] [cI] (fun _=>true) (fun x=>(W64 (W64 (x.1.1*x.2.1.1)+W64 (x.1.2.1*x.2.1.2.1)),()))
theorem Bhq:A7 Tryz.prog 56 B81:=Agf (B5 Aw puOk_nil (fns_cons is_dot A0)) 2 (fun x=>by kernel_rfl)
abbrev B82:PureT:=Bv [cPt,cPt] [cPt] (fun _=>true) (fun x=>((W64 (x.2.1.1-x.1.1),W64 (x.2.1.2.1-x.1.2.1),()),()))
theorem Bhr:A7 Tryz.prog 157 B82:=Agf (B5 Aw puOk_nil (fns_cons is_way A0)) 2 (fun x=>by kernel_rfl)
abbrev B83:PureT:=Bv [cI,cI,cI] [.b] (fun _=>true) (fun x=>(Bs x.1 x.2.1 x.2.2.1,()))
theorem Ru:A7 Tryz.prog 60 B83:=pureOk_of_ev (B5 Aw puOk_nil (fns_cons is_coutside A0)) 2 fun x _ _=>by
 obtain ⟨a,b,c,_⟩:=x
 refine Agm (t:=bif decide (a<b) then .leaf (true,()) else .leaf (decide (a>c),())) (by kernel_rfl) ?_
 refine Bp (fun h=>?_) (fun h=>?_) <;> refine Ak ?_ <;> (show _=(Bs a b c,());unfold Bs;rw [h];rfl)
abbrev Ab4:PureT:=Bv [cI,cI,cI] [.b] (fun _=>true) (fun x=>(!Bs x.1 x.2.1 x.2.2.1,()))
def A0i (a b c:Int):Tree (Bool×Unit):=bif decide (a≥b) then .leaf (decide (a≤c),()) else .leaf (false,())
theorem Ab5 (a b c:Int):(A0i a b c).sat (fun y=>y=(!Bs a b c,())):=by
 unfold A0i Bs
 refine Bp (fun h=>Ak ?_) (fun h=>Ak ?_)
 ·have h':=of_decide_eq_true h
  by_cases k:c<a
  ·rw [decide_eq_true k,decide_eq_false (show ¬ a≤c by omega)];simp
  ·rw [decide_eq_false k,decide_eq_true (show a≤c by omega),decide_eq_false (show ¬ a<b by omega)];rfl
 ·have h':=of_decide_eq_false h
  rw [decide_eq_true (show a<b by omega)];rfl
def Bo (x y:Int):Bool:=!Bs x (-16777216) 16777216&&!Bs y (-16777216) 16777216
abbrev Tq:PureT:=Bv [cPt] [.b] (fun _=>true) (fun x=>(Bo x.1.1 x.1.2.1,()))
def Tr (a b:Int):Tree (Bool×Unit):=bif !Bs a (-16777216) 16777216 then .leaf (!Bs b (-16777216) 16777216,()) else .leaf (false,())
theorem Ww (a b:Int):(Tr a b).sat (fun y=>y=(Bo a b,())):=by
 unfold Tr Bo
 cases !Bs a (-16777216) 16777216 <;> exact rfl
theorem Awq:A7 Tryz.prog 59 Tq:=C0 (B5 Aw (puOk_cons is_coutside.plain Ru puOk_nil) (fns_cons is_strong A0)) 2 (fun x=>Tr x.1.1 x.1.2.1) (fun x=>by kernel_rfl) fun x _ _=>Ww _ _
def I3 (px py qx qy s:Int):Bool:=decide (sq px py qx qy≤s*s∧225*(s*s)≤256*sq px py qx qy)
abbrev B4u (x:TCTs [cPt,cPt,cI]):Bool:=fpt x.1.1 x.1.2.1&&(fpt x.2.1.1 x.2.1.2.1&&decide (0≤x.2.2.1∧x.2.2.1≤131072))
abbrev Akg:PureT:=Bv [cPt,cPt,cI] [.b] B4u (fun x=>(I3 x.1.1 x.1.2.1 x.2.1.1 x.2.1.2.1 x.2.2.1,()))
theorem Bcs {px py qx qy:Int} (h:fpt px py=true) (k:fpt qx qy=true):0≤sq px py qx qy∧sq px py qx qy≤140737488355328:=by
 unfold fpt at h k
 obtain ⟨h1,h2,h3,h4⟩:=of_decide_eq_true h
 obtain ⟨k1,k2,k3,k4⟩:=of_decide_eq_true k
 unfold sq
 have a1:=I2 (qx-px)
 have a2:=I2 (qy-py)
 have b1:(qx-px)*(qx-px)≤8388608*8388608:=by
  rcases Int.le_total 0 (qx-px) with c | c
  ·exact Hn c (by omega)
  ·have:=Hn (a := -(qx-px)) (b:=8388608) (by omega) (by omega)
   rwa [Int.neg_mul_neg] at this
 have b2:(qy-py)*(qy-py)≤8388608*8388608:=by
  rcases Int.le_total 0 (qy-py) with c | c
  ·exact Hn c (by omega)
  ·have:=Hn (a := -(qy-py)) (b:=8388608) (by omega) (by omega)
   rwa [Int.neg_mul_neg] at this
 omega
theorem Bct {s:Int} (h0:0≤s) (h1:s≤131072):0≤s*s∧s*s≤17179869184:=⟨I2 s,Int.mul_le_mul h1 h1 h0 (by omega)⟩
def A6o (px py qx qy s:Int):Tree (Bool×Unit):=.leaf (!Bs (W64 (256*(SqR px py qx qy).1)) (W64 (W64 (225*s)*s)) (W64 (W64 (256*s)*s)),())
theorem Afk (px py qx qy s:Int) (hok:(fpt px py&&(fpt qx qy&&decide (0≤s∧s≤131072)))=true):(A6o px py qx qy s).sat (fun y=>y=(I3 px py qx qy s,())):=by
 simp only [Bool.and_eq_true] at hok
 obtain ⟨h1,h2,h3⟩:=hok
 obtain ⟨h3,h4⟩:=of_decide_eq_true h3
 have hs:(SqR px py qx qy).1=sq px py qx qy:=by unfold SqR;rw [h1,h2];rfl
 have ⟨b1,b2⟩:=Bcs h1 h2
 have ⟨b3,b4⟩:=Bct h3 h4
 unfold A6o
 rw [hs]
 refine Ak ?_
 have e1:W64 (W64 (225*s)*s)=225*(s*s):=by
  rw [show W64 (225*s)=225*s from A9 (by omega) (by omega),Int.mul_assoc];exact A9 (by omega) (by omega)
 have e2:W64 (W64 (256*s)*s)=256*(s*s):=by
  rw [show W64 (256*s)=256*s from A9 (by omega) (by omega),Int.mul_assoc];exact A9 (by omega) (by omega)
 rw [e1,e2,show W64 (256*sq px py qx qy)=256*sq px py qx qy from A9 (by omega) (by omega)]
 unfold Bs I3
 generalize sq px py qx qy=d
 generalize s*s=t
 by_cases c1:d≤t
 ·by_cases c2:225*t≤256*d
  ·rw [decide_eq_false (show ¬ 256*d<225*t by omega),decide_eq_false (show ¬ 256*t<256*d by omega),decide_eq_true (⟨c1,c2⟩:d≤t∧225*t≤256*d)];rfl
  ·rw [decide_eq_true (show 256*d<225*t by omega),decide_eq_false (fun h:d≤t∧225*t≤256*d=>c2 h.2)];rfl
 ·rw [decide_eq_true (show 256*t<256*d by omega),decide_eq_false (fun h:d≤t∧225*t≤256*d=>c1 h.1)];simp
theorem B4v:A7 Tryz.prog 156 Akg:=C0 (B5 Aw (puOk_cons is_coutside.plain Ru (puOk_cons is_Square.plain Awn puOk_nil)) (fns_cons is_close A0)) 2 (fun x=>A6o x.1.1 x.1.2.1 x.2.1.1 x.2.1.2.1 x.2.2.1) (fun x=>by kernel_rfl) fun _ hok _=>Afk _ _ _ _ _ hok
end V
end Go.Proofs.YtcfanlgpkefogaaGreat
namespace Go.Proofs.YtcfanlgpkefogaaGreat
open Go.RowKit
namespace V
def Ju (m r:Int):Bool:=!Bs m 400 500&&!Bs r 1000 4096
def Ic (re dr:Int):Bool:=!Bs re 0 950&&!Bs dr 0 300
def Rv (m r px py mx my rx ry:Int):Bool:=Ju m r&&(fpt px py&&(Bo mx my&&(!Bs rx (-(32*m)) (32*m-1)&&!Bs ry (-(32*m)) (32*m-1))))
def okE (b:Bool):Int:=bif b then 0 else 2
theorem is_CheckBall:FnIs Tryz.prog (125,Tryz.f125):=⟨Tryz.func125,by kernel_rfl,by kernel_rfl⟩
theorem is_CheckBounce:FnIs Tryz.prog (126,Tryz.f126):=⟨Tryz.func126,by kernel_rfl,by kernel_rfl⟩
theorem is_CheckMotion:FnIs Tryz.prog (55,Tryz.f55):=⟨Tryz.func55,by kernel_rfl,by kernel_rfl⟩
theorem is_rcheck:FnIs Tryz.prog (104,Tryz.f104):=⟨Tryz.func104,by kernel_rfl,by kernel_rfl⟩
def plA:List (Nat×PureT):=[(60,B83),(59,Tq),(43,J9)]
theorem puA:Db Tryz.prog plA:=puOk_cons is_coutside.plain Ru (puOk_cons is_strong.plain Awq (puOk_cons Hj.plain K0 puOk_nil))
def plR:List (Nat×PureT):=[]
theorem puR:Db Tryz.prog plR:=puOk_nil
abbrev Lb:PureT:=Bv [A3] [cI] (fun _=>true) (fun x=>(okE (Ju x.1.1 x.1.2.1),()))
def Ou (m r:Int):Tree (Int×Unit):=bif Bs m 400 500 then .leaf (2,()) else bif Bs r 1000 4096 then .leaf (2,()) else .leaf (0,())
def N5 (m r:Int):Tree (Int×Unit):=bif !!Bs m 400 500 then .leaf (2,()) else bif !!Bs r 1000 4096 then .leaf (2,()) else .leaf (0,())
theorem A0j (m r:Int):(Ou m r).sat (fun y=>y=(okE (Ju m r),())):=by
 unfold Ou Ju okE;cases Bs m 400 500 <;> cases Bs r 1000 4096 <;> exact rfl
theorem Xn (m r:Int):(N5 m r).sat (fun y=>y=(okE (Ju m r),())):=by
 unfold N5 Ju okE;cases Bs m 400 500 <;> cases Bs r 1000 4096 <;> exact rfl
theorem Wx:A7 Tryz.prog 125 Lb:=C0 (B5 Aw puA (fns_cons is_CheckBall A0)) 2 (fun x=>Ou x.1.1 x.1.2.1) (fun x=>by kernel_rfl) fun _ _ _=>A0j _ _
abbrev G0:PureT:=Bv [Co] [cI] (fun _=>true) (fun x=>(okE (Ic x.1.1 x.1.2.1),()))
def Ly (m r:Int):Tree (Int×Unit):=bif Bs m 0 950 then .leaf (2,()) else bif Bs r 0 300 then .leaf (2,()) else .leaf (0,())
def Kn (m r:Int):Tree (Int×Unit):=bif !!Bs m 0 950 then .leaf (2,()) else bif !!Bs r 0 300 then .leaf (2,()) else .leaf (0,())
theorem Vr (m r:Int):(Ly m r).sat (fun y=>y=(okE (Ic m r),())):=by
 unfold Ly Ic okE;cases Bs m 0 950 <;> cases Bs r 0 300 <;> exact rfl
theorem Ts (m r:Int):(Kn m r).sat (fun y=>y=(okE (Ic m r),())):=by
 unfold Kn Ic okE;cases Bs m 0 950 <;> cases Bs r 0 300 <;> exact rfl
theorem Lz:A7 Tryz.prog 126 G0:=C0 (B5 Aw puA (fns_cons is_CheckBounce A0)) 2 (fun x=>Ly x.1.1 x.1.2.1) (fun x=>by kernel_rfl) fun _ _ _=>Vr _ _
def Xz (m r px py mx my rx ry:Int):Tree (Int×Unit) :=
 bif Bs m 400 500 then .leaf (2,()) else bif Bs r 1000 4096 then .leaf (2,()) else bif Gu px py != 0 then .leaf (2,()) else bif !Bo mx my then .leaf (2,()) else
 bif Bs rx (W64 (0-W64 (32*m))) (W64 (W64 (32*m)-1)) then .leaf (2,()) else bif Bs ry (W64 (0-W64 (32*m))) (W64 (W64 (32*m)-1)) then .leaf (2,()) else .leaf (0,())
def A0l (m r px py mx my rx ry:Int):Tree (Int×Unit) :=
 bif !!Bs m 400 500 then .leaf (2,()) else bif !!Bs r 1000 4096 then .leaf (2,()) else bif !fpt px py then .leaf (2,()) else bif !Bo mx my then .leaf (2,()) else
 bif !!Bs rx (W64 (0-W64 (32*m))) (W64 (W64 (32*m)-1)) then .leaf (2,()) else bif !!Bs ry (W64 (0-W64 (32*m))) (W64 (W64 (32*m)-1)) then .leaf (2,()) else .leaf (0,())
theorem Q1 {m:Int} (h:Bs m 400 500=false):W64 (0-W64 (32*m)) = -(32*m)∧W64 (W64 (32*m)-1)=32*m-1:=by
 have ⟨h1,h2⟩:=Fc h
 rw [show W64 (32*m)=32*m from A9 (by omega) (by omega)]
 exact ⟨(A9 (by omega) (by omega)).trans (by omega),A9 (by omega) (by omega)⟩
theorem A0m (m r px py mx my rx ry:Int):(Xz m r px py mx my rx ry).sat (fun y=>y=(okE (Rv m r px py mx my rx ry),())):=by
 unfold Xz Rv Ju okE Gu
 cases h:Bs m 400 500 with
 | true=>exact rfl
 | false =>
  rw [(Q1 h).1,(Q1 h).2]
  cases Bs r 1000 4096 <;> cases fpt px py <;> cases Bo mx my <;> cases Bs rx (-(32*m)) (32*m-1) <;> cases Bs ry (-(32*m)) (32*m-1) <;> exact rfl
theorem Ab7 (m r px py mx my rx ry:Int):(A0l m r px py mx my rx ry).sat (fun y=>y=(okE (Rv m r px py mx my rx ry),())):=by
 unfold A0l Rv Ju okE
 cases h:Bs m 400 500 with
 | true=>exact rfl
 | false =>
  rw [(Q1 h).1,(Q1 h).2]
  cases Bs r 1000 4096 <;> cases fpt px py <;> cases Bo mx my <;> cases Bs rx (-(32*m)) (32*m-1) <;> cases Bs ry (-(32*m)) (32*m-1) <;> exact rfl
abbrev H5:PureT:=Bv [A3,Bd] [cI] (fun _=>true) (fun x=>(okE (Rv x.1.1 x.1.2.1 x.2.1.1.1 x.2.1.1.2.1 x.2.1.2.1.1 x.2.1.2.1.2.1 x.2.1.2.2.1.1 x.2.1.2.2.1.2.1),()))
abbrev Ab8:PureT:=Bv [.st [A3,Bd]] [cI] (fun _=>true) (fun x=>(okE (Rv x.1.1.1 x.1.1.2.1 x.1.2.1.1.1 x.1.2.1.1.2.1 x.1.2.1.2.1.1 x.1.2.1.2.1.2.1 x.1.2.1.2.2.1.1 x.1.2.1.2.2.1.2.1),()))
def plB:List (Nat×PureT):=(125,Lb)::plA
theorem puB:Db Tryz.prog plB:=puOk_cons is_CheckBall.plain Wx puA
theorem Aws:A7 Tryz.prog 104 Ab8:=C0 (B5 Aw puA (fns_cons is_rcheck (fns_cons is_CheckBall A0))) 3
 (fun x=>Xz x.1.1.1 x.1.1.2.1 x.1.2.1.1.1 x.1.2.1.1.2.1 x.1.2.1.2.1.1 x.1.2.1.2.1.2.1 x.1.2.1.2.2.1.1 x.1.2.1.2.2.1.2.1) (fun x=>by kernel_rfl) fun _ _ _=>A0m _ _ _ _ _ _ _ _
theorem Qt:A7 Tryz.prog 55 H5:=C0 (B5 Aw puA (fns_cons is_CheckMotion (fns_cons is_rcheck (fns_cons is_CheckBall A0)))) 4
 (fun x=>Xz x.1.1 x.1.2.1 x.2.1.1.1 x.2.1.1.2.1 x.2.1.2.1.1 x.2.1.2.1.2.1 x.2.1.2.2.1.1 x.2.1.2.2.1.2.1) (fun x=>by kernel_rfl) fun _ _ _=>A0m _ _ _ _ _ _ _ _
end V
end Go.Proofs.YtcfanlgpkefogaaGreat
namespace Go.Proofs.YtcfanlgpkefogaaGreat
open Go.RowKit
namespace V
theorem is_newKick:FnIs Tryz.prog (158,Tryz.f158):=⟨Tryz.func158,by kernel_rfl,by kernel_rfl⟩
theorem is_great:FnIs Tryz.prog (168,Tryz.f168):=⟨Tryz.func168,by kernel_rfl,by kernel_rfl⟩
def plC:List (Nat×PureT):=(56,B81)::(157,B82)::(156,Akg)::plB
theorem puC:Db Tryz.prog plC:=puOk_cons is_dot.plain Bhq (puOk_cons is_way.plain Bhr (puOk_cons is_close.plain B4v puB))
def hvS (be ux uy x y:Int):Bool:=decide (W64 (be*W64 (W64 (x*x)+W64 (y*y)))>W64 (2*W64 (W64 (ux*x)+W64 (uy*y))))
def Afl (x:Int):Int:=W64 (x.tdiv 2)
def hv (be ux uy:Int):Nat→Int→Int→Int×Int
 | 0,x,y=>(x,y)
 | n+1,x,y=>bif hvS be ux uy x y then hv be ux uy n (Afl x) (Afl y) else (x,y)
theorem Akh {x:Int} {n:Nat} (h:x.natAbs<2 ^ (n+1)) (hx:inK .i64 x):(Afl x).natAbs<2 ^ n∧inK .i64 (Afl x):=by
 have ⟨a,b⟩:=Bi8 hx
 have h1:(x.tdiv 2).natAbs=x.natAbs / 2:=Int.natAbs_tdiv x 2
 unfold Afl
 rw [show W64 (x.tdiv 2)=x.tdiv 2 from A9 (by omega) (by omega),h1]
 refine ⟨?_,?_⟩
 ·rw [Nat.pow_succ] at h;omega
 ·simp only [inK,Jf,Bl];omega
theorem Awt (be ux uy:Int):hvS be ux uy 0 0=false:=by
 unfold hvS
 simp only [Int.mul_zero]
 rw [show W64 (W64 0+W64 0)=0 by decide,Int.mul_zero]
 decide
theorem Aki {x:Int} (h:inK .i64 x):x.natAbs<2 ^ 64:=by
 have ⟨a,b⟩:=Bi8 h
 have:(2:Nat) ^ 64=18446744073709551616:=by decide
 omega
def Lnk:Lay:={ keys:=[8,13,14],ks:=[.p 3 0 0 0,.p 4 0 0 0,.f 168 [.p 4 0 0 0] []],bs:=[(3,31,[.d cI,.d cI]),(4,268,[.d cI,.d cI,.d cI,.d cI,.d cI])],n:=113,nx:=5,marks:=[] }
noncomputable def Afm:Code:=(As (bodyOf Tryz.f158)).getD 0 .skip
def Lg (r1 r2 x y ux uy be:Int):Lnk.T:=(((),(),(((),()),()),()),(r1,r2,()),(x,y,ux,uy,be,()),())
def Ab9:XE→Lay:=fun _=>Lnk
def Akj (r1 r2 x y ux uy be:Int):Tree (Lnk.T⊕A1 Ab9):=bif hvS be ux uy x y then .leaf (.inl (Lg r1 r2 (Afl x) (Afl y) ux uy be)) else .leaf (.inr ⟨.exit 0,Lg r1 r2 x y ux uy be⟩)
def Afn (g:Lnk.T):Tree (A1 Ab9):=.leaf ⟨.exit 0,Lg g.2.1.1 g.2.1.2.1 (hv g.2.2.1.2.2.2.2.1 g.2.2.1.2.2.1 g.2.2.1.2.2.2.1 64 g.2.2.1.1 g.2.2.1.2.1).1 (hv g.2.2.1.2.2.2.2.1 g.2.2.1.2.2.1 g.2.2.1.2.2.2.1 64 g.2.2.1.1 g.2.2.1.2.1).2 g.2.2.1.2.2.1 g.2.2.1.2.2.2.1 g.2.2.1.2.2.2.2.1⟩
theorem Akk {step:Lnk.T→Tree (Lnk.T⊕A1 Ab9)} (hs:∀ r1 r2 x y ux uy be,step (Lg r1 r2 x y ux uy be)=Akj r1 r2 x y ux uy be) (R:A1 Ab9→Prop) (r1 r2 ux uy be:Int):∀ (n:Nat) (x y:Int),x.natAbs<2 ^ n→y.natAbs<2 ^ n→inK .i64 x→inK .i64 y →
  R ⟨.exit 0,Lg r1 r2 (hv be ux uy n x y).1 (hv be ux uy n x y).2 ux uy be⟩→Agd Lnk Ab9 step R (n+1) (Lg r1 r2 x y ux uy be)
 | 0,x,y,hx,hy,_,_,h=>by
  have e1:x=0:=by have:(2:Nat) ^ 0=1:=rfl;omega
  have e2:y=0:=by have:(2:Nat) ^ 0=1:=rfl;omega
  subst e1 e2
  intro _
  rw [hs]
  unfold Akj
  rw [Awt]
  exact fun _=>h
 | n+1,x,y,hx,hy,kx,ky,h=>by
  intro _
  rw [hs]
  unfold Akj
  unfold hv at h
  cases hc:hvS be ux uy x y with
  | true =>
   rw [hc,cond_true] at h
   obtain ⟨a1,a2⟩:=Akh hx kx
   obtain ⟨b1,b2⟩:=Akh hy ky
   exact Akk hs R r1 r2 ux uy be n _ _ a1 b1 a2 b2 h
  | false =>
   rw [hc,cond_false] at h
   exact fun _=>h
noncomputable def B4w:Ctx:=ctx Tryz.prog plC [(168,Tryz.f168)]
theorem Afo:CtxOk B4w:=B5 Aw puC (fns_cons is_great A0)
theorem And:Bb Tryz.prog 158 Afm (B8 Lnk Ab9 Afn):=by
 refine G1 Afo 3 158 (fun _=>none) (fun _ _ f h=>by simp at h) Lnk Ab9 (fun _=>Nat.le_refl _) Afn (fun g=>Akj g.2.1.1 g.2.1.2.1 g.2.2.1.1 g.2.2.1.2.1 g.2.2.1.2.2.1 g.2.2.1.2.2.2.1 g.2.2.1.2.2.2.2.1) (fun g=>by kernel_rfl) ?_
 intro g R hw hf
 have hw':(WFKs Lnk.ks g.1∧WFB Lnk.bs g.2):=hw
 obtain ⟨_,_,hb,_⟩:=hw'
 have hb':inK .i64 g.2.2.1.1∧inK .i64 g.2.2.1.2.1:=by
  simp only [WFKs,WFK,WFD] at hb
  exact ⟨hb.1,hb.2.1⟩
 exact ⟨65,Akk (fun _ _ _ _ _ _ _=>rfl) R g.2.1.1 g.2.1.2.1 g.2.2.1.2.2.1 g.2.2.1.2.2.2.1 g.2.2.1.2.2.2.2.1 64 g.2.2.1.1 g.2.2.1.2.1 (Aki hb'.1) (Aki hb'.2) hb'.1 hb'.2 hf⟩
def kQ (nx ny:Int):Int:=W64 (W64 (nx*nx)+W64 (ny*ny))
def kD (nx ny ux uy:Int):Int:=W64 (W64 (ux*nx)+W64 (uy*ny))
def kA (nx ny ux uy:Int):Int:=W64 ((kD nx ny ux uy).tdiv (kQ nx ny))
def kC (nx ny ux uy:Int):Int:=W64 ((W64 (W64 (uy*nx)-W64 (ux*ny))).tdiv (kQ nx ny))
def kX (nx ny ux uy re dr be:Int):Int:=W64 ((W64 (W64 (W64 (W64 (1000+re)*nx)*kA nx ny ux uy)-W64 (W64 (dr*ny)*kC nx ny ux uy))).tdiv (W64 (1000*be)))
def kY (nx ny ux uy re dr be:Int):Int:=W64 ((W64 (W64 (W64 (W64 (1000+re)*ny)*kA nx ny ux uy)+W64 (W64 (dr*nx)*kC nx ny ux uy))).tdiv (W64 (1000*be)))
def kK (nx ny ux uy re dr be:Int):Int×Int:=hv be ux uy 64 (kX nx ny ux uy re dr be) (kY nx ny ux uy re dr be)
def kOk (nx ny ux uy be:Int):Bool:=decide (0<kQ nx ny∧0<W64 (1000*be)∧0≤kD nx ny ux uy)
abbrev A43:PureT:=Bv [cPt,cPt,Co,cI] [cPt] (fun x=>kOk x.1.1 x.1.2.1 x.2.1.1 x.2.1.2.1 x.2.2.2.1)
 (fun x=>(((kK x.1.1 x.1.2.1 x.2.1.1 x.2.1.2.1 x.2.2.1.1 x.2.2.1.2.1 x.2.2.2.1).1,(kK x.1.1 x.1.2.1 x.2.1.1 x.2.1.2.1 x.2.2.1.1 x.2.2.1.2.1 x.2.2.2.1).2,()),()))
noncomputable def Ane:Ctx:=I7 Tryz.prog plC [(158,Tryz.f158)] [((158,9),B8 Lnk Ab9 Afn)]
theorem A6q:CtxOk Ane:=Cp Aw puC (fns_cons is_newKick A0) (Cc (by kernel_rfl) (by kernel_rfl) And)
def Vs (nx ny ux uy re dr be:Int):Tree (TCTs [cPt]) :=
 bif kQ nx ny != 0 then bif kQ nx ny != 0 then bif W64 (1000*be)!=0 then bif W64 (1000*be)!=0 then .leaf (((kK nx ny ux uy re dr be).1,(kK nx ny ux uy re dr be).2,()),()) else .fail else .fail else .fail else .fail
theorem A6r (nx ny ux uy re dr be:Int) (h:kOk nx ny ux uy be=true):(Vs nx ny ux uy re dr be).sat (fun y=>y=(((kK nx ny ux uy re dr be).1,(kK nx ny ux uy re dr be).2,()),())):=by
 obtain ⟨h1,h2,_⟩:=of_decide_eq_true h
 unfold Vs
 rw [show (kQ nx ny != 0)=true by simp;omega,show (W64 (1000*be)!=0)=true by simp;omega]
 exact rfl
theorem Anf:A7 Tryz.prog 158 A43:=C0 A6q 3
 (fun x=>Vs x.1.1 x.1.2.1 x.2.1.1 x.2.1.2.1 x.2.2.1.1 x.2.2.1.2.1 x.2.2.2.1) (fun x=>by kernel_rfl) fun _ hok _=>A6r _ _ _ _ _ _ _ hok
end V
end Go.Proofs.YtcfanlgpkefogaaGreat
namespace Go.Proofs.YtcfanlgpkefogaaGreat
open Go.RowKit
namespace V
end V
end Go.Proofs.YtcfanlgpkefogaaGreat
namespace Go.Proofs.YtcfanlgpkefogaaGreat
open Go.RowKit
namespace V
theorem D7 {a b A B:Int} (h1 : -A≤a) (h2:a≤A) (h3 : -B≤b) (h4:b≤B) : -(A*B)≤a*b∧a*b≤A*B:=by
 have e:(a*b).natAbs≤A.natAbs*B.natAbs:=by
  rw [Int.natAbs_mul]
  exact Nat.mul_le_mul (by omega) (by omega)
 have f:((A.natAbs*B.natAbs:Nat):Int)=A*B:=by
  rw [Int.natCast_mul,Int.natAbs_of_nonneg (by omega),Int.natAbs_of_nonneg (by omega)]
 omega
structure Bm where
 m:Int
 r:Int
 px:Int
 py:Int
 mx:Int
 my:Int
 rx:Int
 ry:Int
def Bm.ok (a:Bm):Bool:=Rv a.m a.r a.px a.py a.mx a.my a.rx a.ry
abbrev bm (b:TCT A3) (s:TCT Bd):Bm:=⟨b.1,b.2.1,s.1.1,s.1.2.1,s.2.1.1,s.2.1.2.1,s.2.2.1.1,s.2.2.1.2.1⟩
structure Bm.Fit (a:Bm):Prop where
 m1:400≤a.m
 m2:a.m≤500
 r1:1000≤a.r
 r2:a.r≤4096
 p:fpt a.px a.py=true
 px1 : -4194304≤a.px
 px2:a.px≤4194304
 py1 : -4194304≤a.py
 py2:a.py≤4194304
 mx1 : -16777216≤a.mx
 mx2:a.mx≤16777216
 my1 : -16777216≤a.my
 my2:a.my≤16777216
 rx1 : -(32*a.m)≤a.rx
 rx2:a.rx≤32*a.m-1
 ry1 : -(32*a.m)≤a.ry
 ry2:a.ry≤32*a.m-1
theorem Bm.fit {a:Bm} (h:a.ok=true):a.Fit:=by
 unfold Bm.ok Rv Ju Bo at h
 simp only [Bool.and_eq_true,Bool.not_eq_true'] at h
 obtain ⟨⟨h1,h2⟩,h3,⟨h4,h5⟩,h6,h7⟩:=h
 have:=Fc h1;have:=Fc h2;have:=Fc h4;have:=Fc h5;have:=Fc h6;have:=Fc h7
 have h3':=h3
 unfold fpt at h3'
 obtain ⟨k1,k2,k3,k4⟩:=of_decide_eq_true h3'
 exact ⟨by omega,by omega,by omega,by omega,h3,k1,k2,k3,k4,by omega,by omega,by omega,by omega,by omega,by omega,by omega,by omega⟩
def uX (a b:Bm):Int:=b.m*a.mx-a.m*b.mx
def uY (a b:Bm):Int:=b.m*a.my-a.m*b.my
def nX (a b:Bm):Int:=b.px-a.px
def nY (a b:Bm):Int:=b.py-a.py
def uN (a b:Bm):Int:=uX a b*nX a b+uY a b*nY a b
abbrev Qu:=TCTs [cPt,cI]
def Wy (a b:Bm) (re dr:Int):Qu :=
 bif !(a.ok&&(b.ok&&Ic re dr)) then ((0,0,()),2,()) else
 bif !I3 a.px a.py b.px b.py (a.r+b.r) then ((0,0,()),5,()) else
 bif decide (uN a b≤0) then ((0,0,()),10,()) else
 (((kK (nX a b) (nY a b) (uX a b) (uY a b) re dr (a.m+b.m)).1,(kK (nX a b) (nY a b) (uX a b) (uY a b) re dr (a.m+b.m)).2,()),0,())
structure Pair (a b:Bm):Prop where
 ux1 : -16777216000≤uX a b
 ux2:uX a b≤16777216000
 uy1 : -16777216000≤uY a b
 uy2:uY a b≤16777216000
 wux:W64 (W64 (b.m*a.mx)-W64 (a.m*b.mx))=uX a b
 wuy:W64 (W64 (b.m*a.my)-W64 (a.m*b.my))=uY a b
 wnx:W64 (b.px-a.px)=nX a b
 wny:W64 (b.py-a.py)=nY a b
 wr:W64 (a.r+b.r)=a.r+b.r
 wm:W64 (a.m+b.m)=a.m+b.m
 cl:(fpt a.px a.py&&(fpt b.px b.py&&decide (0≤a.r+b.r∧a.r+b.r≤131072)))=true
 dot:W64 (W64 (uX a b*nX a b)+W64 (uY a b*nY a b))=uN a b
theorem pair {a b:Bm} (ha:a.Fit) (hb:b.Fit):Pair a b:=by
 have ⟨a1,a2⟩:=D7 (A:=500) (B:=16777216) (show -500≤b.m by have:=hb.m1;omega) hb.m2 ha.mx1 ha.mx2
 have ⟨a3,a4⟩:=D7 (A:=500) (B:=16777216) (show -500≤a.m by have:=ha.m1;omega) ha.m2 hb.mx1 hb.mx2
 have ⟨b1,b2⟩:=D7 (A:=500) (B:=16777216) (show -500≤b.m by have:=hb.m1;omega) hb.m2 ha.my1 ha.my2
 have ⟨b3,b4⟩:=D7 (A:=500) (B:=16777216) (show -500≤a.m by have:=ha.m1;omega) ha.m2 hb.my1 hb.my2
 have hx1 : -16777216000≤uX a b:=by unfold uX;omega
 have hx2:uX a b≤16777216000:=by unfold uX;omega
 have hy1 : -16777216000≤uY a b:=by unfold uY;omega
 have hy2:uY a b≤16777216000:=by unfold uY;omega
 have p1:=ha.px1;have p2:=ha.px2;have p3:=ha.py1;have p4:=ha.py2
 have q1:=hb.px1;have q2:=hb.px2;have q3:=hb.py1;have q4:=hb.py2
 have c1:=ha.r1;have c2:=ha.r2;have c3:=hb.r1;have c4:=hb.r2
 have d1:=ha.m1;have d2:=ha.m2;have d3:=hb.m1;have d4:=hb.m2
 have ⟨e1,e2⟩:=D7 (A:=16777216000) (B:=8388608) hx1 hx2 (show -8388608≤nX a b by unfold nX;omega) (show nX a b≤8388608 by unfold nX;omega)
 have ⟨e3,e4⟩:=D7 (A:=16777216000) (B:=8388608) hy1 hy2 (show -8388608≤nY a b by unfold nY;omega) (show nY a b≤8388608 by unfold nY;omega)
 refine ⟨hx1,hx2,hy1,hy2,?_,?_,A9 (by omega) (by omega),A9 (by omega) (by omega),A9 (by omega) (by omega),A9 (by omega) (by omega),?_,?_⟩
 ·rw [show W64 (b.m*a.mx)=_ from A9 (by omega) (by omega),show W64 (a.m*b.mx)=_ from A9 (by omega) (by omega)]
  exact A9 (by omega) (by omega)
 ·rw [show W64 (b.m*a.my)=_ from A9 (by omega) (by omega),show W64 (a.m*b.my)=_ from A9 (by omega) (by omega)]
  exact A9 (by omega) (by omega)
 ·rw [ha.p,hb.p,decide_eq_true (show 0≤a.r+b.r∧a.r+b.r≤131072 by omega)];rfl
 ·rw [show W64 (uX a b*nX a b)=_ from A9 (by omega) (by omega),show W64 (uY a b*nY a b)=_ from A9 (by omega) (by omega)]
  exact A9 (by omega) (by omega)
theorem Bhs {a b:Bm} (ha:a.Fit) (hb:b.Fit):kQ (nX a b) (nY a b)=sq a.px a.py b.px b.py:=by
 have p1:=ha.px1;have p2:=ha.px2;have p3:=ha.py1;have p4:=ha.py2
 have q1:=hb.px1;have q2:=hb.px2;have q3:=hb.py1;have q4:=hb.py2
 have ⟨e1,e2⟩:=D7 (A:=8388608) (B:=8388608) (show -8388608≤nX a b by unfold nX;omega) (show nX a b≤8388608 by unfold nX;omega) (show -8388608≤nX a b by unfold nX;omega) (show nX a b≤8388608 by unfold nX;omega)
 have ⟨e3,e4⟩:=D7 (A:=8388608) (B:=8388608) (show -8388608≤nY a b by unfold nY;omega) (show nY a b≤8388608 by unfold nY;omega) (show -8388608≤nY a b by unfold nY;omega) (show nY a b≤8388608 by unfold nY;omega)
 unfold kQ
 rw [show W64 (nX a b*nX a b)=_ from A9 (by omega) (by omega),show W64 (nY a b*nY a b)=_ from A9 (by omega) (by omega)]
 exact A9 (by omega) (by omega)
theorem Ang {px py qx qy s:Int} (h:I3 px py qx qy s=true) (hs:2000≤s):3515625≤sq px py qx qy:=by
 unfold I3 at h
 have h1:=(of_decide_eq_true h).2
 have h2:2000*2000≤s*s:=Hn (by omega) hs
 omega
theorem B4x {a b:Bm} (ha:a.Fit) (hb:b.Fit) (hc:I3 a.px a.py b.px b.py (a.r+b.r)=true) (hd:¬ uN a b≤0):kOk (nX a b) (nY a b) (uX a b) (uY a b) (a.m+b.m)=true:=by
 have h1:=Ang hc (by have:=ha.r1;have:=hb.r1;omega)
 have h2:=Bhs ha hb
 have h3:=(pair ha hb).dot
 have d1:=ha.m1;have d2:=ha.m2;have d3:=hb.m1;have d4:=hb.m2
 unfold kOk kD
 rw [h2,h3,show W64 (1000*(a.m+b.m))=1000*(a.m+b.m) from A9 (by omega) (by omega)]
 exact decide_eq_true ⟨by omega,by omega,by omega⟩
def Afp (a b:Bm) (re dr:Int):Tree Qu :=
 bif okE a.ok != 0 then .leaf ((0,0,()),2,()) else bif okE b.ok != 0 then .leaf ((0,0,()),2,()) else bif okE (Ic re dr)!=0 then .leaf ((0,0,()),2,()) else
 bif fpt a.px a.py&&(fpt b.px b.py&&decide (0≤W64 (a.r+b.r)∧W64 (a.r+b.r)≤131072)) then
  bif !I3 a.px a.py b.px b.py (W64 (a.r+b.r)) then .leaf ((0,0,()),5,()) else
  bif decide (W64 (W64 (W64 (b.px-a.px)*W64 (W64 (b.m*a.mx)-W64 (a.m*b.mx)))+W64 (W64 (b.py-a.py)*W64 (W64 (b.m*a.my)-W64 (a.m*b.my))))≤0) then .leaf ((0,0,()),10,()) else
  bif kOk (W64 (b.px-a.px)) (W64 (b.py-a.py)) (W64 (W64 (b.m*a.mx)-W64 (a.m*b.mx))) (W64 (W64 (b.m*a.my)-W64 (a.m*b.my))) (W64 (a.m+b.m)) then
   .leaf (((kK (W64 (b.px-a.px)) (W64 (b.py-a.py)) (W64 (W64 (b.m*a.mx)-W64 (a.m*b.mx))) (W64 (W64 (b.m*a.my)-W64 (a.m*b.my))) re dr (W64 (a.m+b.m))).1,
    (kK (W64 (b.px-a.px)) (W64 (b.py-a.py)) (W64 (W64 (b.m*a.mx)-W64 (a.m*b.mx))) (W64 (W64 (b.m*a.my)-W64 (a.m*b.my))) re dr (W64 (a.m+b.m))).2,()),0,())
  else .fail
 else .fail
theorem Anh (a b:Bm) (re dr:Int):(Afp a b re dr).sat (fun y=>y=Wy a b re dr):=by
 unfold Afp Wy okE
 cases ha:a.ok with
 | false=>exact rfl
 | true=>cases hb:b.ok with
  | false=>exact rfl
  | true=>cases hc:Ic re dr with
   | false=>exact rfl
   | true =>
    have fa:=Bm.fit ha
    have fb:=Bm.fit hb
    have P:=pair fa fb
    rw [P.wr,P.cl,P.wux,P.wuy,P.wnx,P.wny,P.wm,Int.mul_comm (nX a b) (uX a b),Int.mul_comm (nY a b) (uY a b),P.dot]
    cases hcl:I3 a.px a.py b.px b.py (a.r+b.r) with
    | false=>exact rfl
    | true =>
     by_cases hd:uN a b≤0
     ·rw [decide_eq_true hd];exact rfl
     ·rw [decide_eq_false hd,B4x fa fb hcl hd];exact rfl
abbrev Blv (y:Qu):Qu:=((y.1.1,y.1.2.1,()),y.2.1,())
abbrev Awu:PureT:=Bv [A3,Bd,A3,Bd,Co] [cPt,cI] (fun _=>true) (fun x=>Blv (Wy (bm x.1 x.2.1) (bm x.2.2.1 x.2.2.2.1) x.2.2.2.2.1.1 x.2.2.2.2.1.2.1))
theorem is_Kick:FnIs Tryz.prog (153,Tryz.f153):=⟨Tryz.func153,by kernel_rfl,by kernel_rfl⟩
theorem is_meet:FnIs Tryz.prog (166,Tryz.f166):=⟨Tryz.func166,by kernel_rfl,by kernel_rfl⟩
def plK:List (Nat×PureT):=(158,A43)::(126,G0)::(55,H5)::(104,Ab8)::plC
theorem puK:Db Tryz.prog plK:=puOk_cons is_newKick.plain Anf (puOk_cons is_CheckBounce.plain Lz (puOk_cons is_CheckMotion.plain Qt (puOk_cons is_rcheck.plain Aws puC)))
theorem Bcu:A7 Tryz.prog 153 Awu:=C0 (B5 Aw puK (fns_cons is_Kick (fns_cons is_meet A0))) 6
 (fun x=>Afp (bm x.1 x.2.1) (bm x.2.2.1 x.2.2.2.1) x.2.2.2.2.1.1 x.2.2.2.2.1.2.1) (fun x=>by kernel_rfl) fun _ _ _=>Anh _ _ _ _
end V
end Go.Proofs.YtcfanlgpkefogaaGreat
namespace Go.Proofs.YtcfanlgpkefogaaGreat
open Go.RowKit
namespace V
theorem is_Step:FnIs Tryz.prog (39,Tryz.f39):=⟨Tryz.func39,by kernel_rfl,by kernel_rfl⟩
theorem is_steps:FnIs Tryz.prog (62,Tryz.f62):=⟨Tryz.func62,by kernel_rfl,by kernel_rfl⟩
theorem is_rollstep:FnIs Tryz.prog (106,Tryz.f106):=⟨Tryz.func106,by kernel_rfl,by kernel_rfl⟩
theorem is_rollstep1:FnIs Tryz.prog (140,Tryz.f140):=⟨Tryz.func140,by kernel_rfl,by kernel_rfl⟩
theorem is_each:FnIs Tryz.prog (139,Tryz.f139):=⟨Tryz.func139,by kernel_rfl,by kernel_rfl⟩
theorem is_each1:FnIs Tryz.prog (159,Tryz.f159):=⟨Tryz.func159,by kernel_rfl,by kernel_rfl⟩
theorem is_each2:FnIs Tryz.prog (160,Tryz.f160):=⟨Tryz.func160,by kernel_rfl,by kernel_rfl⟩
theorem Akl:A7 Tryz.prog 159 (Uk 0):=B8b (B5 Aw puOk_nil (fns_cons is_each1 A0)) 2 (fun id row st col=>by kernel_rfl)
theorem Akm:A7 Tryz.prog 160 (Uk 1):=B8b (B5 Aw puOk_nil (fns_cons is_each2 A0)) 2 (fun id row st col=>by kernel_rfl)
def plS:List (Nat×PureT):=(159,Uk 0)::(160,Uk 1)::(38,Ab2)::plK
theorem puS:Db Tryz.prog plS:=puOk_cons is_each1.plain Akl (puOk_cons is_each2.plain Akm (puOk_cons is_Divide.plain Aw4 puK))
abbrev Ani:=TCTs [Bd,cI]
abbrev Fw:TCT Bd:=((0,0,()),(0,0,()),(0,0,()),())
def sX (a:Bm):Int:=a.px+DW (a.mx+a.rx) (64*a.m)
def sY (a:Bm):Int:=a.py+DW (a.my+a.ry) (64*a.m)
def Md (a:Bm):Ani:=bif !a.ok then (Fw,2,()) else bif !fpt (sX a) (sY a) then (Fw,4,()) else
 (((sX a,sY a,()),(a.mx,a.my,()),(DR (a.mx+a.rx) (64*a.m),DR (a.my+a.ry) (64*a.m),()),()),0,())
def Afq (a:Bm):Tree Ani :=
 bif okE a.ok != 0 then .leaf (Fw,okE a.ok,()) else
 bif !Gu (W64 (a.px+DvW (W64 (a.mx+a.rx)) (W64 (64*a.m)))) (W64 (a.py+DvW (W64 (a.my+a.ry)) (W64 (64*a.m))))==0 then .leaf (Fw,4,()) else
 .leaf (((W64 (a.px+DvW (W64 (a.mx+a.rx)) (W64 (64*a.m))),W64 (a.py+DvW (W64 (a.my+a.ry)) (W64 (64*a.m))),()),(a.mx,a.my,()),
  (DvR (W64 (a.mx+a.rx)) (W64 (64*a.m)),DvR (W64 (a.my+a.ry)) (W64 (64*a.m)),()),()),0,())
structure StepW (a:Bm):Prop where
 w1:W64 (a.mx+a.rx)=a.mx+a.rx
 w2:W64 (a.my+a.ry)=a.my+a.ry
 w3:W64 (64*a.m)=64*a.m
 d1:Lv (a.mx+a.rx) (64*a.m)=true
 d2:Lv (a.my+a.ry) (64*a.m)=true
 x:W64 (a.px+DW (a.mx+a.rx) (64*a.m))=sX a
 y:W64 (a.py+DW (a.my+a.ry) (64*a.m))=sY a
 v1:DvW (a.mx+a.rx) (64*a.m)=DW (a.mx+a.rx) (64*a.m)
 v2:DvW (a.my+a.ry) (64*a.m)=DW (a.my+a.ry) (64*a.m)
 v3:DvR (a.mx+a.rx) (64*a.m)=DR (a.mx+a.rx) (64*a.m)
 v4:DvR (a.my+a.ry) (64*a.m)=DR (a.my+a.ry) (64*a.m)
theorem Bht {a:Bm} (h:a.Fit):StepW a:=by
 obtain ⟨m1,m2,r1,r2,p,px1,px2,py1,py2,mx1,mx2,my1,my2,rx1,rx2,ry1,ry2⟩:=h
 have ⟨b1,b2⟩:=Ak3 (a.mx+a.rx) (64*a.m) 33554432 (by omega) (by omega) (by omega) (by omega)
 have ⟨b3,b4⟩:=Ak3 (a.my+a.ry) (64*a.m) 33554432 (by omega) (by omega) (by omega) (by omega)
 have ⟨c1,c2,_⟩:=Avq (a.mx+a.rx) (64*a.m) (by omega) (by omega) (by omega) (by omega)
 have ⟨c3,c4,_⟩:=Avq (a.my+a.ry) (64*a.m) (by omega) (by omega) (by omega) (by omega)
 exact ⟨A9 (by omega) (by omega),A9 (by omega) (by omega),A9 (by omega) (by omega),decide_eq_true (by omega),decide_eq_true (by omega),
  A9 (by omega) (by omega),A9 (by omega) (by omega),c1,c3,c2,c4⟩
theorem Anj (a:Bm):(Afq a).sat (fun y=>y=Md a):=by
 unfold Afq Md okE
 cases ha:a.ok with
 | false=>exact rfl
 | true =>
  have w:=Bht (Bm.fit ha)
  rw [w.w1,w.w2,w.w3,w.v1,w.v2,w.v3,w.v4,w.x,w.y]
  unfold Gu
  cases fpt (sX a) (sY a) <;> exact rfl
abbrev etaS (y:TCT Bd):TCT Bd:=((y.1.1,y.1.2.1,()),(y.2.1.1,y.2.1.2.1,()),(y.2.2.1.1,y.2.2.1.2.1,()),())
abbrev Bhu (y:Ani):Ani:=(etaS y.1,y.2.1,())
abbrev Awv:PureT:=Bv [A3,Bd] [Bd,cI] (fun _=>true) (fun x=>Bhu (Md (bm x.1 x.2.1)))
theorem Bcv:A7 Tryz.prog 39 Awv:=C0 (B5 Aw puS (fns_cons is_Step (fns_cons is_steps (fns_cons is_rollstep (fns_cons is_rollstep1 (fns_cons is_each A0)))))) 8
 (fun x=>Afq (bm x.1 x.2.1)) (fun x=>by kernel_rfl) fun _ _ _=>Anj _
end V
end Go.Proofs.YtcfanlgpkefogaaGreat
namespace Go.Proofs.YtcfanlgpkefogaaGreat
open Go.RowKit
namespace V
theorem is_Bounce:FnIs Tryz.prog (136,Tryz.f136):=⟨Tryz.func136,by kernel_rfl,by kernel_rfl⟩
theorem is_Bounce1:FnIs Tryz.prog (154,Tryz.f154):=⟨Tryz.func154,by kernel_rfl,by kernel_rfl⟩
theorem is_Bump:FnIs Tryz.prog (138,Tryz.f138):=⟨Tryz.func138,by kernel_rfl,by kernel_rfl⟩
def plN:List (Nat×PureT):=(159,Uk 0)::(160,Uk 1)::(153,Awu)::(155,Wu)::plK
theorem puN:Db Tryz.prog plN:=puOk_cons is_each1.plain Akl (puOk_cons is_each2.plain Akm (puOk_cons is_Kick.plain Bcu (puOk_cons is_CheckDisc.plain Wv puK)))
abbrev Ank:=TCTs [Bd,Bd,cI]
abbrev Blw (y:Ank):Ank:=(etaS y.1,etaS y.2.1,y.2.2.1,())
def Bm.moved (a:Bm) (x y:Int):TCT Bd:=((a.px,a.py,()),(x,y,()),(a.rx,a.ry,()),())
def I4 (a b:Bm) (k:Qu):Ank :=
 bif k.2.1 != 0 then (Fw,Fw,k.2.1,()) else
 bif !Bo (W64 (a.mx-k.1.1)) (W64 (a.my-k.1.2.1)) then (Fw,Fw,4,()) else
 bif !Bo (W64 (b.mx+k.1.1)) (W64 (b.my+k.1.2.1)) then (Fw,Fw,4,()) else
 (a.moved (W64 (a.mx-k.1.1)) (W64 (a.my-k.1.2.1)),b.moved (W64 (b.mx+k.1.1)) (W64 (b.my+k.1.2.1)),0,())
def Cd (a b:Bm) (re dr:Int):Ank:=I4 a b (Wy a b re dr)
def Aww (a b:Bm) (k:Qu):Tree Ank :=
 bif k.2.1 != 0 then .leaf (Fw,Fw,k.2.1,()) else
 bif !Bo (W64 (a.mx-k.1.1)) (W64 (a.my-k.1.2.1)) then .leaf (Fw,Fw,4,()) else
 bif !Bo (W64 (b.mx+k.1.1)) (W64 (b.my+k.1.2.1)) then .leaf (Fw,Fw,4,()) else
 .leaf (a.moved (W64 (a.mx-k.1.1)) (W64 (a.my-k.1.2.1)),b.moved (W64 (b.mx+k.1.1)) (W64 (b.my+k.1.2.1)),0,())
theorem Awx (a b:Bm) (k:Qu):(Aww a b k).sat (fun y=>y=I4 a b k):=by
 unfold Aww I4
 cases k.2.1 != 0 <;> cases Bo (W64 (a.mx-k.1.1)) (W64 (a.my-k.1.2.1)) <;> cases Bo (W64 (b.mx+k.1.1)) (W64 (b.my+k.1.2.1)) <;> exact rfl
abbrev Aba:PureT:=Bv [A3,Bd,A3,Bd,Co] [Bd,Bd,cI] (fun _=>true) (fun x=>Blw (Cd (bm x.1 x.2.1) (bm x.2.2.1 x.2.2.2.1) x.2.2.2.2.1.1 x.2.2.2.2.1.2.1))
theorem Awy:A7 Tryz.prog 136 Aba:=C0 (B5 Aw puN (fns_cons is_Bounce (fns_cons is_Bounce1 (fns_cons is_each A0)))) 6
 (fun x=>Aww (bm x.1 x.2.1) (bm x.2.2.1 x.2.2.2.1) (Wy (bm x.1 x.2.1) (bm x.2.2.1 x.2.2.2.1) x.2.2.2.2.1.1 x.2.2.2.2.1.2.1)) (fun x=>by kernel_rfl) fun _ _ _=>Awx _ _ _
def dN (a:Bm) (qx qy:Int):Int:=a.mx*(qx-a.px)+a.my*(qy-a.py)
def Abb (a:Bm) (qx qy q re dr:Int):Ani :=
 bif !(a.ok&&(Lx qx qy q&&Ic re dr)) then (Fw,2,()) else bif !I3 a.px a.py qx qy (a.r+q) then (Fw,5,()) else bif decide (dN a qx qy≤0) then (Fw,10,()) else
 bif !Bo (W64 (a.mx-(kK (qx-a.px) (qy-a.py) a.mx a.my re dr 1).1)) (W64 (a.my-(kK (qx-a.px) (qy-a.py) a.mx a.my re dr 1).2)) then (Fw,4,()) else
 (a.moved (W64 (a.mx-(kK (qx-a.px) (qy-a.py) a.mx a.my re dr 1).1)) (W64 (a.my-(kK (qx-a.px) (qy-a.py) a.mx a.my re dr 1).2)),0,())
def Afr (a:Bm) (qx qy q re dr:Int):Tree Ani :=
 bif okE a.ok != 0 then .leaf (Fw,2,()) else bif A0g qx qy q != 0 then .leaf (Fw,2,()) else bif okE (Ic re dr)!=0 then .leaf (Fw,2,()) else
 bif fpt a.px a.py&&(fpt qx qy&&decide (0≤W64 (a.r+q)∧W64 (a.r+q)≤131072)) then
 bif !I3 a.px a.py qx qy (W64 (a.r+q)) then .leaf (Fw,5,()) else
 bif decide (W64 (W64 (W64 (qx-a.px)*a.mx)+W64 (W64 (qy-a.py)*a.my))≤0) then .leaf (Fw,10,()) else
 bif kOk (W64 (qx-a.px)) (W64 (qy-a.py)) a.mx a.my 1 then
 bif !Bo (W64 (a.mx-(kK (W64 (qx-a.px)) (W64 (qy-a.py)) a.mx a.my re dr 1).1)) (W64 (a.my-(kK (W64 (qx-a.px)) (W64 (qy-a.py)) a.mx a.my re dr 1).2)) then .leaf (Fw,4,()) else
 .leaf (a.moved (W64 (a.mx-(kK (W64 (qx-a.px)) (W64 (qy-a.py)) a.mx a.my re dr 1).1)) (W64 (a.my-(kK (W64 (qx-a.px)) (W64 (qy-a.py)) a.mx a.my re dr 1).2)),0,())
 else .fail else .fail
theorem Anl (a:Bm) (qx qy q re dr:Int):(Afr a qx qy q re dr).sat (fun y=>y=Abb a qx qy q re dr):=by
 unfold Afr Abb okE A0g
 cases ha:a.ok with
 | false=>exact rfl
 | true=>cases hb:Lx qx qy q with
  | false=>exact rfl
  | true=>cases hc:Ic re dr with
   | false=>exact rfl
   | true =>
    have fa:=Bm.fit ha
    unfold Lx at hb
    simp only [Bool.and_eq_true,Bool.not_eq_true'] at hb
    obtain ⟨hp,hq⟩:=hb
    have hq':=Fc hq
    have hp':=hp
    unfold fpt at hp'
    obtain ⟨q1,q2,q3,q4⟩:=of_decide_eq_true hp'
    have p1:=fa.px1;have p2:=fa.px2;have p3:=fa.py1;have p4:=fa.py2
    have c1:=fa.r1;have c2:=fa.r2
    have ⟨e1,e2⟩:=D7 (A:=16777216) (B:=8388608) (b:=qx-a.px) fa.mx1 fa.mx2 (by omega) (by omega)
    have ⟨e3,e4⟩:=D7 (A:=16777216) (B:=8388608) (b:=qy-a.py) fa.my1 fa.my2 (by omega) (by omega)
    have wr:W64 (a.r+q)=a.r+q:=A9 (by omega) (by omega)
    have wx:W64 (qx-a.px)=qx-a.px:=A9 (by omega) (by omega)
    have wy:W64 (qy-a.py)=qy-a.py:=A9 (by omega) (by omega)
    have wd:W64 (W64 (a.mx*(qx-a.px))+W64 (a.my*(qy-a.py)))=dN a qx qy:=by
     rw [show W64 (a.mx*(qx-a.px))=_ from A9 (by omega) (by omega),show W64 (a.my*(qy-a.py))=_ from A9 (by omega) (by omega)]
     exact A9 (by omega) (by omega)
    rw [wr,wx,wy,Int.mul_comm (qx-a.px) a.mx,Int.mul_comm (qy-a.py) a.my,wd,fa.p,hp,decide_eq_true (show 0≤a.r+q∧a.r+q≤131072 by omega)]
    cases hcl:I3 a.px a.py qx qy (a.r+q) with
    | false=>exact rfl
    | true =>
     by_cases hd:dN a qx qy≤0
     ·rw [decide_eq_true hd];exact rfl
     ·have hs:1001*1001≤(a.r+q)*(a.r+q):=Hn (by omega) (by omega)
      have hcl':=hcl
      unfold I3 at hcl'
      have hsq:=(of_decide_eq_true hcl').2
      have ⟨g1,g2⟩:=D7 (a:=qx-a.px) (b:=qx-a.px) (A:=8388608) (B:=8388608) (by omega) (by omega) (by omega) (by omega)
      have ⟨g3,g4⟩:=D7 (a:=qy-a.py) (b:=qy-a.py) (A:=8388608) (B:=8388608) (by omega) (by omega) (by omega) (by omega)
      have hk:kQ (qx-a.px) (qy-a.py)=sq a.px a.py qx qy:=by
       unfold kQ
       rw [show W64 ((qx-a.px)*(qx-a.px))=_ from A9 (by omega) (by omega),show W64 ((qy-a.py)*(qy-a.py))=_ from A9 (by omega) (by omega)]
       exact A9 (by omega) (by omega)
      have hok:kOk (qx-a.px) (qy-a.py) a.mx a.my 1=true:=by
       unfold kOk kD
       rw [hk,wd]
       exact decide_eq_true ⟨by omega,by decide,by omega⟩
      rw [decide_eq_false hd,hok]
      cases Bo (W64 (a.mx-(kK (qx-a.px) (qy-a.py) a.mx a.my re dr 1).1)) (W64 (a.my-(kK (qx-a.px) (qy-a.py) a.mx a.my re dr 1).2)) <;> exact rfl
abbrev Awz:PureT:=Bv [A3,Bd,A2,Co] [Bd,cI] (fun _=>true) (fun x=>Bhu (Abb (bm x.1 x.2.1) x.2.2.1.1.1 x.2.2.1.1.2.1 x.2.2.1.2.1 x.2.2.2.1.1 x.2.2.2.1.2.1))
theorem Bcw:A7 Tryz.prog 138 Awz:=C0 (B5 Aw puN (fns_cons is_Bump A0)) 6
 (fun x=>Afr (bm x.1 x.2.1) x.2.2.1.1.1 x.2.2.1.1.2.1 x.2.2.1.2.1 x.2.2.2.1.1 x.2.2.2.1.2.1) (fun x=>by kernel_rfl) fun _ _ _=>Anl _ _ _ _ _ _
end V
end Go.Proofs.YtcfanlgpkefogaaGreat
namespace Go.Proofs.YtcfanlgpkefogaaGreat
open Go.RowKit
namespace V
def stB (a:Bm):Bm:={ a with px:=sX a,py:=sY a,rx:=DR (a.mx+a.rx) (64*a.m),ry:=DR (a.my+a.ry) (64*a.m) }
def stE:Nat→Bm→Bm
 | 0,a=>a
 | k+1,a=>bif fpt (sX a) (sY a) then stE k (stB a) else stB a
def Lrt:Lay:={ keys:=[2,3,4,6,7,8],ks:=[.d cI,.p 0 0 0 0,.p 1 0 0 0,.p 2 0 0 0,.d cI,.d cI],bs:=[(0,70,[.d cI,.d cI]),(1,60,[.d cI,.d cI,.d cI,.d cI,.d cI,.d cI]),(2,60,[.d cI,.d cI,.d cI,.d cI,.d cI,.d cI])],n:=41,nx:=1000,marks:=[] }
def hB (g:Lrt.T):Bm:=⟨g.2.1.1,g.2.1.2.1,g.2.2.1.1,g.2.2.1.2.1,g.2.2.1.2.2.1,g.2.2.1.2.2.2.1,g.2.2.1.2.2.2.2.1,g.2.2.1.2.2.2.2.2.1⟩
end V
end Go.Proofs.YtcfanlgpkefogaaGreat
namespace Go.Proofs.YtcfanlgpkefogaaGreat
open Go.RowKit
namespace V
theorem is_Slow:FnIs Tryz.prog (19,Tryz.f19):=⟨Tryz.func19,by kernel_rfl,by kernel_rfl⟩
def slN (x y:Int):Int:=rt (64*(x*x+y*y))
def O2 (x y l:Int):TCTs [cPt,cI] :=
 bif !Bo x y then ((0,0,()),2,()) else bif Bs l 0 33554432 then ((0,0,()),3,()) else bif decide (slN x y≤8*l) then ((0,0,()),0,()) else
 (((x*(slN x y-8*l)).tdiv (slN x y),(y*(slN x y-8*l)).tdiv (slN x y),()),0,())
def slQ (x y:Int):Int:=W64 (64*W64 (W64 (x*x)+W64 (y*y)))
def slP (x y l n:Int):TCTs [cPt,cI]:=((W64 ((W64 (x*W64 (n-W64 (8*l)))).tdiv n),W64 ((W64 (y*W64 (n-W64 (8*l)))).tdiv n),()),0,())
def Afs (x y l:Int):Tree (TCTs [cPt,cI]) :=
 bif !Bo x y then .leaf ((0,0,()),2,()) else bif Bs l 0 33554432 then .leaf ((0,0,()),3,()) else
 bif decide (W64 (RtV (slQ x y)-W64 (8*l))≤0) then .leaf ((0,0,()),0,()) else
 bif RtV (slQ x y)!=0 then bif RtV (slQ x y)!=0 then .leaf (slP x y l (RtV (slQ x y))) else .fail else .fail
theorem Abc {a n A:Int} (h1 : -A≤a) (h2:a≤A) : -A≤a.tdiv n∧a.tdiv n≤A:=by
 have t1:=Int.natAbs_tdiv a n
 have t3:=Nat.div_le_self a.natAbs n.natAbs
 have t4:(a.tdiv n).natAbs≤a.natAbs:=t1 ▸ t3
 generalize a.tdiv n=z at *
 omega
structure SlW (x y l:Int):Prop where
 q:slQ x y=64*(x*x+y*y)
 q0:0≤64*(x*x+y*y)
 q1:64*(x*x+y*y)≤36028797018963968
 v:RtV (64*(x*x+y*y))=slN x y
 n0:0≤slN x y
 n1:slN x y≤268435456
 l0:W64 (8*l)=8*l
 d:W64 (slN x y-8*l)=slN x y-8*l
 p:8*l<slN x y→slP x y l (slN x y)=(((x*(slN x y-8*l)).tdiv (slN x y),(y*(slN x y-8*l)).tdiv (slN x y),()),0,())
theorem Blx {x y l:Int} (h:Bo x y=true) (k:Bs l 0 33554432=false):SlW x y l:=by
 unfold Bo at h
 simp only [Bool.and_eq_true,Bool.not_eq_true'] at h
 have:=Fc h.1;have:=Fc h.2;have:=Fc k
 have ⟨a1,a2⟩:=D7 (a:=x) (b:=x) (A:=16777216) (B:=16777216) (by omega) (by omega) (by omega) (by omega)
 have ⟨b1,b2⟩:=D7 (a:=y) (b:=y) (A:=16777216) (B:=16777216) (by omega) (by omega) (by omega) (by omega)
 have c1:0≤x*x:=by rcases Int.le_total 0 x with c | c;exact Int.mul_nonneg c c;exact Int.mul_nonneg_of_nonpos_of_nonpos c c
 have c2:0≤y*y:=by rcases Int.le_total 0 y with c | c;exact Int.mul_nonneg c c;exact Int.mul_nonneg_of_nonpos_of_nonpos c c
 have q:slQ x y=64*(x*x+y*y):=by
  unfold slQ
  rw [show W64 (x*x)=x*x from A9 (by omega) (by omega),show W64 (y*y)=y*y from A9 (by omega) (by omega),show W64 (x*x+y*y)=x*x+y*y from A9 (by omega) (by omega)]
  exact A9 (by omega) (by omega)
 have q0:0≤64*(x*x+y*y):=by omega
 have ⟨n0,n3,_⟩:=J7 _ q0
 have n1:rt (64*(x*x+y*y))≤268435456:=B7z _ _ q0 (by omega) (by omega)
 have e1:W64 (8*l)=8*l:=A9 (by omega) (by omega)
 have e2:W64 (slN x y-8*l)=slN x y-8*l:=by unfold slN;exact A9 (by omega) (by omega)
 refine ⟨q,q0,by omega,?_,n0,n1,e1,e2,fun g=>?_⟩
 ·unfold RtV An9 slN
  rw [if_pos (by simp;omega)]
 ·unfold slP
  have n1':slN x y≤268435456:=n1
  have n0':0≤slN x y:=n0
  rw [e1,e2]
  have ⟨f1,f2⟩:=D7 (a:=x) (b:=slN x y-8*l) (A:=16777216) (B:=268435456) (by omega) (by omega) (by omega) (by omega)
  have ⟨f3,f4⟩:=D7 (a:=y) (b:=slN x y-8*l) (A:=16777216) (B:=268435456) (by omega) (by omega) (by omega) (by omega)
  rw [show W64 (x*(slN x y-8*l))=x*(slN x y-8*l) from A9 (by omega) (by omega),show W64 (y*(slN x y-8*l))=y*(slN x y-8*l) from A9 (by omega) (by omega)]
  have ⟨t1,t2⟩:=Abc (n:=slN x y) f1 f2
  have ⟨t3,t4⟩:=Abc (n:=slN x y) f3 f4
  rw [show W64 ((x*(slN x y-8*l)).tdiv (slN x y))=(x*(slN x y-8*l)).tdiv (slN x y) from A9 (by omega) (by omega),show W64 ((y*(slN x y-8*l)).tdiv (slN x y))=(y*(slN x y-8*l)).tdiv (slN x y) from A9 (by omega) (by omega)]
theorem Anm (x y l:Int):(Afs x y l).sat (fun r=>r=O2 x y l):=by
 unfold Afs O2
 cases h:Bo x y with
 | false=>exact rfl
 | true =>
  cases k:Bs l 0 33554432 with
  | true=>exact rfl
  | false =>
   have w:=Blx h k
   rw [w.q,w.v,w.l0,w.d]
   have:=w.n0
   rcases Int.lt_or_le (8*l) (slN x y) with g | g
   ·have:=Fc k
    rw [show decide (slN x y-8*l≤0)=false by simp;omega,show decide (slN x y≤8*l)=false by simp;omega,show (slN x y != 0)=true by simp;omega,w.p g]
    exact rfl
   ·rw [show decide (slN x y-8*l≤0)=true by simp;omega,show decide (slN x y≤8*l)=true by simp;omega]
    exact rfl
abbrev Ax0:PureT:=Bv [cPt,cI] [cPt,cI] (fun _=>true) (fun x=>(((O2 x.1.1 x.1.2.1 x.2.1).1.1,(O2 x.1.1 x.1.2.1 x.2.1).1.2.1,()),(O2 x.1.1 x.1.2.1 x.2.1).2.1,()))
def plSl:List (Nat×PureT):=(61,Awa)::plK
theorem puSl:Db Tryz.prog plSl:=puOk_cons is_Root.plain Bck puK
theorem Bcx:A7 Tryz.prog 19 Ax0:=C0 (B5 Aw puSl (fns_cons is_Slow A0)) 7
 (fun x=>Afs x.1.1 x.1.2.1 x.2.1) (fun x=>by kernel_rfl) fun _ _ _=>Anm _ _ _
end V
end Go.Proofs.YtcfanlgpkefogaaGreat
