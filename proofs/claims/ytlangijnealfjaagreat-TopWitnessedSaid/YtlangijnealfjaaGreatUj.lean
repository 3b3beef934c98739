import Derived.Test.YtlangijnealfjaaGreatVC
import Derived.Test.YtlangijnealfjaaGreatTV
namespace Go.Proofs.YtlangijnealfjaaGreat
open Go.RowKit
namespace V
abbrev A3:TC:=.st [cI,cI]
abbrev B0:TC:=.st [cPt,cPt,cPt]
abbrev Cj:TC:=.st [cI,cI]
theorem is_dot:FnIs Tryz.prog (232,Tryz.f232):=⟨Tryz.func232,by kernel_rfl,by kernel_rfl⟩
theorem is_way:FnIs Tryz.prog (234,Tryz.f234):=⟨Tryz.func234,by kernel_rfl,by kernel_rfl⟩
theorem is_coutside:FnIs Tryz.prog (190,Tryz.f190):=⟨Tryz.func190,by kernel_rfl,by kernel_rfl⟩
theorem is_strong:FnIs Tryz.prog (230,Tryz.f230):=⟨Tryz.func230,by kernel_rfl,by kernel_rfl⟩
theorem is_close:FnIs Tryz.prog (233,Tryz.f233):=⟨Tryz.func233,by kernel_rfl,by kernel_rfl⟩
abbrev B5e:PureT:=Bj [cPt,cPt] [cI] (fun _=>true) (fun x=>(W64 (W64 (x.1.1*x.2.1.1)+W64 (x.1.2.1*x.2.1.2.1)),()))
theorem Bf5:A6 Tryz.prog 232 B5e:=A0h (Ap Ak puOk_nil (fns_cons is_dot A0)) 2 (fun x=>by kernel_rfl)
abbrev B5f:PureT:=Bj [cPt,cPt] [cPt] (fun _=>true) (fun x=>((W64 (x.2.1.1-x.1.1),W64 (x.2.1.2.1-x.1.2.1),()),()))
theorem Bf6:A6 Tryz.prog 234 B5f:=A0h (Ap Ak puOk_nil (fns_cons is_way A0)) 2 (fun x=>by kernel_rfl)
abbrev B5g:PureT:=Bj [cI,cI,cI] [.b] (fun _=>true) (fun x=>(Bd x.1 x.2.1 x.2.2.1,()))
theorem Qn:A6 Tryz.prog 190 B5g:=pureOk_of_ev (Ap Ak puOk_nil (fns_cons is_coutside A0)) 2 fun x _ _=>by
 obtain ⟨a,b,c,_⟩:=x
 refine A69 (t:=bif decide (a<b) then .leaf (true,()) else .leaf (decide (a>c),())) (by kernel_rfl) ?_
 refine Bb (fun h=>?_) (fun h=>?_) <;> refine An ?_ <;> (show _=(Bd a b c,());unfold Bd;rw [h];rfl)
abbrev A9e:PureT:=Bj [cI,cI,cI] [.b] (fun _=>true) (fun x=>(!Bd x.1 x.2.1 x.2.2.1,()))
def Z2 (a b c:Int):Tree (Bool×Unit):=bif decide (a≥b) then .leaf (decide (a≤c),()) else .leaf (false,())
theorem A9f (a b c:Int):(Z2 a b c).sat (fun y=>y=(!Bd a b c,())):=by
 unfold Z2 Bd
 refine Bb (fun h=>An ?_) (fun h=>An ?_)
 ·have h':=of_decide_eq_true h
  by_cases k:c<a
  ·rw [decide_eq_true k,decide_eq_false (show ¬ a≤c by omega)];simp
  ·rw [decide_eq_false k,decide_eq_true (show a≤c by omega),decide_eq_false (show ¬ a<b by omega)];rfl
 ·have h':=of_decide_eq_false h
  rw [decide_eq_true (show a<b by omega)];rfl
def B9 (x y:Int):Bool:=!Bd x (-16777216) 16777216&&!Bd y (-16777216) 16777216
abbrev Sg:PureT:=Bj [cPt] [.b] (fun _=>true) (fun x=>(B9 x.1.1 x.1.2.1,()))
def Si (a b:Int):Tree (Bool×Unit):=bif !Bd a (-16777216) 16777216 then .leaf (!Bd b (-16777216) 16777216,()) else .leaf (false,())
theorem Vn (a b:Int):(Si a b).sat (fun y=>y=(B9 a b,())):=by
 unfold Si B9
 cases !Bd a (-16777216) 16777216 <;> exact rfl
theorem Ato:A6 Tryz.prog 230 Sg:=Bl (Ap Ak (puOk_cons is_coutside.plain Qn puOk_nil) (fns_cons is_strong A0)) 2 (fun x=>Si x.1.1 x.1.2.1) (fun x=>by kernel_rfl) fun x _ _=>Vn _ _
def Hl (px py qx qy s:Int):Bool:=decide (sq px py qx qy≤s*s∧225*(s*s)≤256*sq px py qx qy)
abbrev B1z (x:TCTs [cPt,cPt,cI]):Bool:=fpt x.1.1 x.1.2.1&&(fpt x.2.1.1 x.2.1.2.1&&decide (0≤x.2.2.1∧x.2.2.1≤131072))
abbrev Ai0:PureT:=Bj [cPt,cPt,cI] [.b] B1z (fun x=>(Hl x.1.1 x.1.2.1 x.2.1.1 x.2.1.2.1 x.2.2.1,()))
theorem Ba5 {px py qx qy:Int} (h:fpt px py=true) (k:fpt qx qy=true):0≤sq px py qx qy∧sq px py qx qy≤140737488355328:=by
 unfold fpt at h k
 obtain ⟨h1,h2,h3,h4⟩:=of_decide_eq_true h
 obtain ⟨k1,k2,k3,k4⟩:=of_decide_eq_true k
 unfold sq
 have a1:=Jn (qx-px)
 have a2:=Jn (qy-py)
 have b1:(qx-px)*(qx-px)≤8388608*8388608:=by
  rcases Int.le_total 0 (qx-px) with c | c
  ·exact Gz c (by omega)
  ·have:=Gz (a := -(qx-px)) (b:=8388608) (by omega) (by omega)
   rwa [Int.neg_mul_neg] at this
 have b2:(qy-py)*(qy-py)≤8388608*8388608:=by
  rcases Int.le_total 0 (qy-py) with c | c
  ·exact Gz c (by omega)
  ·have:=Gz (a := -(qy-py)) (b:=8388608) (by omega) (by omega)
   rwa [Int.neg_mul_neg] at this
 omega
theorem Ba6 {s:Int} (h0:0≤s) (h1:s≤131072):0≤s*s∧s*s≤17179869184:=⟨Jn s,Int.mul_le_mul h1 h1 h0 (by omega)⟩
def A5h (px py qx qy s:Int):Tree (Bool×Unit):=.leaf (!Bd (W64 (256*(SqR px py qx qy).1)) (W64 (W64 (225*s)*s)) (W64 (W64 (256*s)*s)),())
theorem Adx (px py qx qy s:Int) (hok:(fpt px py&&(fpt qx qy&&decide (0≤s∧s≤131072)))=true):(A5h px py qx qy s).sat (fun y=>y=(Hl px py qx qy s,())):=by
 simp only [Bool.and_eq_true] at hok
 obtain ⟨h1,h2,h3⟩:=hok
 obtain ⟨h3,h4⟩:=of_decide_eq_true h3
 have hs:(SqR px py qx qy).1=sq px py qx qy:=by unfold SqR;rw [h1,h2];rfl
 have ⟨b1,b2⟩:=Ba5 h1 h2
 have ⟨b3,b4⟩:=Ba6 h3 h4
 unfold A5h
 rw [hs]
 refine An ?_
 have e1:W64 (W64 (225*s)*s)=225*(s*s):=by
  rw [show W64 (225*s)=225*s from A7 (by omega) (by omega),Int.mul_assoc];exact A7 (by omega) (by omega)
 have e2:W64 (W64 (256*s)*s)=256*(s*s):=by
  rw [show W64 (256*s)=256*s from A7 (by omega) (by omega),Int.mul_assoc];exact A7 (by omega) (by omega)
 rw [e1,e2,show W64 (256*sq px py qx qy)=256*sq px py qx qy from A7 (by omega) (by omega)]
 unfold Bd Hl
 generalize sq px py qx qy=d
 generalize s*s=t
 by_cases c1:d≤t
 ·by_cases c2:225*t≤256*d
  ·rw [decide_eq_false (show ¬ 256*d<225*t by omega),decide_eq_false (show ¬ 256*t<256*d by omega),decide_eq_true (⟨c1,c2⟩:d≤t∧225*t≤256*d)];rfl
  ·rw [decide_eq_true (show 256*d<225*t by omega),decide_eq_false (fun h:d≤t∧225*t≤256*d=>c2 h.2)];rfl
 ·rw [decide_eq_true (show 256*t<256*d by omega),decide_eq_false (fun h:d≤t∧225*t≤256*d=>c1 h.1)];simp
theorem B20:A6 Tryz.prog 233 Ai0:=Bl (Ap Ak (puOk_cons is_coutside.plain Qn (puOk_cons is_Square.plain Atl puOk_nil)) (fns_cons is_close A0)) 2 (fun x=>A5h x.1.1 x.1.2.1 x.2.1.1 x.2.1.2.1 x.2.2.1) (fun x=>by kernel_rfl) fun _ hok _=>Adx _ _ _ _ _ hok
end V
end Go.Proofs.YtlangijnealfjaaGreat
namespace Go.Proofs.YtlangijnealfjaaGreat
open Go.RowKit
namespace V
def Jc (m r:Int):Bool:=!Bd m 400 500&&!Bd r 1000 4096
def Hw (re dr:Int):Bool:=!Bd re 0 950&&!Bd dr 0 300
def Qo (m r px py mx my rx ry:Int):Bool:=Jc m r&&(fpt px py&&(B9 mx my&&(!Bd rx (-(32*m)) (32*m-1)&&!Bd ry (-(32*m)) (32*m-1))))
def okE (b:Bool):Int:=bif b then 0 else 2
theorem is_CheckBall:FnIs Tryz.prog (123,Tryz.f123):=⟨Tryz.func123,by kernel_rfl,by kernel_rfl⟩
theorem is_CheckBounce:FnIs Tryz.prog (124,Tryz.f124):=⟨Tryz.func124,by kernel_rfl,by kernel_rfl⟩
theorem is_CheckMotion:FnIs Tryz.prog (125,Tryz.f125):=⟨Tryz.func125,by kernel_rfl,by kernel_rfl⟩
theorem is_rcheck:FnIs Tryz.prog (191,Tryz.f191):=⟨Tryz.func191,by kernel_rfl,by kernel_rfl⟩
def plA:List (Nat×PureT):=[(190,B5g),(230,Sg),(70,Kp)]
theorem puA:D3 Tryz.prog plA:=puOk_cons is_coutside.plain Qn (puOk_cons is_strong.plain Ato (puOk_cons K7.plain Ml puOk_nil))
def plR:List (Nat×PureT):=[]
theorem puR:D3 Tryz.prog plR:=puOk_nil
abbrev Kq:PureT:=Bj [A3] [cI] (fun _=>true) (fun x=>(okE (Jc x.1.1 x.1.2.1),()))
def O3 (m r:Int):Tree (Int×Unit):=bif Bd m 400 500 then .leaf (2,()) else bif Bd r 1000 4096 then .leaf (2,()) else .leaf (0,())
def Mm (m r:Int):Tree (Int×Unit):=bif !!Bd m 400 500 then .leaf (2,()) else bif !!Bd r 1000 4096 then .leaf (2,()) else .leaf (0,())
theorem Z3 (m r:Int):(O3 m r).sat (fun y=>y=(okE (Jc m r),())):=by
 unfold O3 Jc okE;cases Bd m 400 500 <;> cases Bd r 1000 4096 <;> exact rfl
theorem Wp (m r:Int):(Mm m r).sat (fun y=>y=(okE (Jc m r),())):=by
 unfold Mm Jc okE;cases Bd m 400 500 <;> cases Bd r 1000 4096 <;> exact rfl
theorem Vo:A6 Tryz.prog 123 Kq:=Bl (Ap Ak puA (fns_cons is_CheckBall A0)) 2 (fun x=>O3 x.1.1 x.1.2.1) (fun x=>by kernel_rfl) fun _ _ _=>Z3 _ _
abbrev Fu:PureT:=Bj [Cj] [cI] (fun _=>true) (fun x=>(okE (Hw x.1.1 x.1.2.1),()))
def Lf (m r:Int):Tree (Int×Unit):=bif Bd m 0 950 then .leaf (2,()) else bif Bd r 0 300 then .leaf (2,()) else .leaf (0,())
def K8 (m r:Int):Tree (Int×Unit):=bif !!Bd m 0 950 then .leaf (2,()) else bif !!Bd r 0 300 then .leaf (2,()) else .leaf (0,())
theorem Ul (m r:Int):(Lf m r).sat (fun y=>y=(okE (Hw m r),())):=by
 unfold Lf Hw okE;cases Bd m 0 950 <;> cases Bd r 0 300 <;> exact rfl
theorem Sj (m r:Int):(K8 m r).sat (fun y=>y=(okE (Hw m r),())):=by
 unfold K8 Hw okE;cases Bd m 0 950 <;> cases Bd r 0 300 <;> exact rfl
theorem Lh:A6 Tryz.prog 124 Fu:=Bl (Ap Ak puA (fns_cons is_CheckBounce A0)) 2 (fun x=>Lf x.1.1 x.1.2.1) (fun x=>by kernel_rfl) fun _ _ _=>Ul _ _
def X3 (m r px py mx my rx ry:Int):Tree (Int×Unit) :=
 bif Bd m 400 500 then .leaf (2,()) else bif Bd r 1000 4096 then .leaf (2,()) else bif Hv px py != 0 then .leaf (2,()) else bif !B9 mx my then .leaf (2,()) else
 bif Bd rx (W64 (0-W64 (32*m))) (W64 (W64 (32*m)-1)) then .leaf (2,()) else bif Bd ry (W64 (0-W64 (32*m))) (W64 (W64 (32*m)-1)) then .leaf (2,()) else .leaf (0,())
def Z5 (m r px py mx my rx ry:Int):Tree (Int×Unit) :=
 bif !!Bd m 400 500 then .leaf (2,()) else bif !!Bd r 1000 4096 then .leaf (2,()) else bif !fpt px py then .leaf (2,()) else bif !B9 mx my then .leaf (2,()) else
 bif !!Bd rx (W64 (0-W64 (32*m))) (W64 (W64 (32*m)-1)) then .leaf (2,()) else bif !!Bd ry (W64 (0-W64 (32*m))) (W64 (W64 (32*m)-1)) then .leaf (2,()) else .leaf (0,())
theorem Pd {m:Int} (h:Bd m 400 500=false):W64 (0-W64 (32*m)) = -(32*m)∧W64 (W64 (32*m)-1)=32*m-1:=by
 have ⟨h1,h2⟩:=F4 h
 rw [show W64 (32*m)=32*m from A7 (by omega) (by omega)]
 exact ⟨(A7 (by omega) (by omega)).trans (by omega),A7 (by omega) (by omega)⟩
theorem Z6 (m r px py mx my rx ry:Int):(X3 m r px py mx my rx ry).sat (fun y=>y=(okE (Qo m r px py mx my rx ry),())):=by
 unfold X3 Qo Jc okE Hv
 cases h:Bd m 400 500 with
 | true=>exact rfl
 | false =>
  rw [(Pd h).1,(Pd h).2]
  cases Bd r 1000 4096 <;> cases fpt px py <;> cases B9 mx my <;> cases Bd rx (-(32*m)) (32*m-1) <;> cases Bd ry (-(32*m)) (32*m-1) <;> exact rfl
theorem A9h (m r px py mx my rx ry:Int):(Z5 m r px py mx my rx ry).sat (fun y=>y=(okE (Qo m r px py mx my rx ry),())):=by
 unfold Z5 Qo Jc okE
 cases h:Bd m 400 500 with
 | true=>exact rfl
 | false =>
  rw [(Pd h).1,(Pd h).2]
  cases Bd r 1000 4096 <;> cases fpt px py <;> cases B9 mx my <;> cases Bd rx (-(32*m)) (32*m-1) <;> cases Bd ry (-(32*m)) (32*m-1) <;> exact rfl
abbrev Gm:PureT:=Bj [A3,B0] [cI] (fun _=>true) (fun x=>(okE (Qo x.1.1 x.1.2.1 x.2.1.1.1 x.2.1.1.2.1 x.2.1.2.1.1 x.2.1.2.1.2.1 x.2.1.2.2.1.1 x.2.1.2.2.1.2.1),()))
abbrev A9i:PureT:=Bj [.st [A3,B0]] [cI] (fun _=>true) (fun x=>(okE (Qo x.1.1.1 x.1.1.2.1 x.1.2.1.1.1 x.1.2.1.1.2.1 x.1.2.1.2.1.1 x.1.2.1.2.1.2.1 x.1.2.1.2.2.1.1 x.1.2.1.2.2.1.2.1),()))
def plB:List (Nat×PureT):=(123,Kq)::plA
theorem puB:D3 Tryz.prog plB:=puOk_cons is_CheckBall.plain Vo puA
theorem Atq:A6 Tryz.prog 191 A9i:=Bl (Ap Ak puA (fns_cons is_rcheck (fns_cons is_CheckBall A0))) 3
 (fun x=>X3 x.1.1.1 x.1.1.2.1 x.1.2.1.1.1 x.1.2.1.1.2.1 x.1.2.1.2.1.1 x.1.2.1.2.1.2.1 x.1.2.1.2.2.1.1 x.1.2.1.2.2.1.2.1) (fun x=>by kernel_rfl) fun _ _ _=>Z6 _ _ _ _ _ _ _ _
theorem Q2:A6 Tryz.prog 125 Gm:=Bl (Ap Ak puA (fns_cons is_CheckMotion (fns_cons is_rcheck (fns_cons is_CheckBall A0)))) 4
 (fun x=>X3 x.1.1 x.1.2.1 x.2.1.1.1 x.2.1.1.2.1 x.2.1.2.1.1 x.2.1.2.1.2.1 x.2.1.2.2.1.1 x.2.1.2.2.1.2.1) (fun x=>by kernel_rfl) fun _ _ _=>Z6 _ _ _ _ _ _ _ _
end V
end Go.Proofs.YtlangijnealfjaaGreat
namespace Go.Proofs.YtlangijnealfjaaGreat
open Go.RowKit
namespace V
theorem is_newKick:FnIs Tryz.prog (235,Tryz.f235):=⟨Tryz.func235,by kernel_rfl,by kernel_rfl⟩
theorem is_great:FnIs Tryz.prog (244,Tryz.f244):=⟨Tryz.func244,by kernel_rfl,by kernel_rfl⟩
def plC:List (Nat×PureT):=(232,B5e)::(234,B5f)::(233,Ai0)::plB
theorem puC:D3 Tryz.prog plC:=puOk_cons is_dot.plain Bf5 (puOk_cons is_way.plain Bf6 (puOk_cons is_close.plain B20 puB))
def hvS (be ux uy x y:Int):Bool:=decide (W64 (be*W64 (W64 (x*x)+W64 (y*y)))>W64 (2*W64 (W64 (ux*x)+W64 (uy*y))))
def Ady (x:Int):Int:=W64 (x.tdiv 2)
def hv (be ux uy:Int):Nat→Int→Int→Int×Int
 | 0,x,y=>(x,y)
 | n+1,x,y=>bif hvS be ux uy x y then hv be ux uy n (Ady x) (Ady y) else (x,y)
theorem Ai1 {x:Int} {n:Nat} (h:x.natAbs<2 ^ (n+1)) (hx:inK .i64 x):(Ady x).natAbs<2 ^ n∧inK .i64 (Ady x):=by
 have ⟨a,b⟩:=Bfn hx
 have h1:(x.tdiv 2).natAbs=x.natAbs / 2:=Int.natAbs_tdiv x 2
 unfold Ady
 rw [show W64 (x.tdiv 2)=x.tdiv 2 from A7 (by omega) (by omega),h1]
 refine ⟨?_,?_⟩
 ·rw [Nat.pow_succ] at h;omega
 ·simp only [inK,Iz,B7];omega
theorem Atr (be ux uy:Int):hvS be ux uy 0 0=false:=by
 unfold hvS
 simp only [Int.mul_zero]
 rw [show W64 (W64 0+W64 0)=0 by decide,Int.mul_zero]
 decide
theorem Ai2 {x:Int} (h:inK .i64 x):x.natAbs<2 ^ 64:=by
 have ⟨a,b⟩:=Bfn h
 have:(2:Nat) ^ 64=18446744073709551616:=by decide
 omega
def Lnk:Lay:={ keys:=[8,13,14],ks:=[.p 3 0 0 0,.p 4 0 0 0,.f 244 [.p 4 0 0 0] []],bs:=[(3,28,[.d cI,.d cI]),(4,366,[.d cI,.d cI,.d cI,.d cI,.d cI])],n:=113,nx:=5,marks:=[] }
noncomputable def Adz:Code:=(Al (bodyOf Tryz.f235)).getD 0 .skip
def Lg (r1 r2 x y ux uy be:Int):Lnk.T:=(((),(),(((),()),()),()),(r1,r2,()),(x,y,ux,uy,be,()),())
def A9j:XE→Lay:=fun _=>Lnk
def Ai3 (r1 r2 x y ux uy be:Int):Tree (Lnk.T⊕A1 A9j):=bif hvS be ux uy x y then .leaf (.inl (Lg r1 r2 (Ady x) (Ady y) ux uy be)) else .leaf (.inr ⟨.exit 0,Lg r1 r2 x y ux uy be⟩)
def Ae0 (g:Lnk.T):Tree (A1 A9j):=.leaf ⟨.exit 0,Lg g.2.1.1 g.2.1.2.1 (hv g.2.2.1.2.2.2.2.1 g.2.2.1.2.2.1 g.2.2.1.2.2.2.1 64 g.2.2.1.1 g.2.2.1.2.1).1 (hv g.2.2.1.2.2.2.2.1 g.2.2.1.2.2.1 g.2.2.1.2.2.2.1 64 g.2.2.1.1 g.2.2.1.2.1).2 g.2.2.1.2.2.1 g.2.2.1.2.2.2.1 g.2.2.1.2.2.2.2.1⟩
theorem Ai4 {step:Lnk.T→Tree (Lnk.T⊕A1 A9j)} (hs:∀ r1 r2 x y ux uy be,step (Lg r1 r2 x y ux uy be)=Ai3 r1 r2 x y ux uy be) (R:A1 A9j→Prop) (r1 r2 ux uy be:Int):∀ (n:Nat) (x y:Int),x.natAbs<2 ^ n→y.natAbs<2 ^ n→inK .i64 x→inK .i64 y →
  R ⟨.exit 0,Lg r1 r2 (hv be ux uy n x y).1 (hv be ux uy n x y).2 ux uy be⟩→Aeq Lnk A9j step R (n+1) (Lg r1 r2 x y ux uy be)
 | 0,x,y,hx,hy,_,_,h=>by
  have e1:x=0:=by have:(2:Nat) ^ 0=1:=rfl;omega
  have e2:y=0:=by have:(2:Nat) ^ 0=1:=rfl;omega
  subst e1 e2
  intro _
  rw [hs]
  unfold Ai3
  rw [Atr]
  exact fun _=>h
 | n+1,x,y,hx,hy,kx,ky,h=>by
  intro _
  rw [hs]
  unfold Ai3
  unfold hv at h
  cases hc:hvS be ux uy x y with
  | true =>
   rw [hc,cond_true] at h
   obtain ⟨a1,a2⟩:=Ai1 hx kx
   obtain ⟨b1,b2⟩:=Ai1 hy ky
   exact Ai4 hs R r1 r2 ux uy be n _ _ a1 b1 a2 b2 h
  | false =>
   rw [hc,cond_false] at h
   exact fun _=>h
noncomputable def B21:Ctx:=ctx Tryz.prog plC [(244,Tryz.f244)]
theorem Ae1:CtxOk B21:=Ap Ak puC (fns_cons is_great A0)
theorem Aky:Aw Tryz.prog 235 Adz (Ar Lnk A9j Ae0):=by
 refine G9 Ae1 3 235 (fun _=>none) (fun _ _ f h=>by simp at h) Lnk A9j (fun _=>Nat.le_refl _) Ae0 (fun g=>Ai3 g.2.1.1 g.2.1.2.1 g.2.2.1.1 g.2.2.1.2.1 g.2.2.1.2.2.1 g.2.2.1.2.2.2.1 g.2.2.1.2.2.2.2.1) (fun g=>by kernel_rfl) ?_
 intro g R hw hf
 have hw':(WFKs Lnk.ks g.1∧WFB Lnk.bs g.2):=hw
 obtain ⟨_,_,hb,_⟩:=hw'
 have hb':inK .i64 g.2.2.1.1∧inK .i64 g.2.2.1.2.1:=by
  simp only [WFKs,WFK,WFD] at hb
  exact ⟨hb.1,hb.2.1⟩
 exact ⟨65,Ai4 (fun _ _ _ _ _ _ _=>rfl) R g.2.1.1 g.2.1.2.1 g.2.2.1.2.2.1 g.2.2.1.2.2.2.1 g.2.2.1.2.2.2.2.1 64 g.2.2.1.1 g.2.2.1.2.1 (Ai2 hb'.1) (Ai2 hb'.2) hb'.1 hb'.2 hf⟩
def kQ (nx ny:Int):Int:=W64 (W64 (nx*nx)+W64 (ny*ny))
def kD (nx ny ux uy:Int):Int:=W64 (W64 (ux*nx)+W64 (uy*ny))
def kA (nx ny ux uy:Int):Int:=W64 ((kD nx ny ux uy).tdiv (kQ nx ny))
def kC (nx ny ux uy:Int):Int:=W64 ((W64 (W64 (uy*nx)-W64 (ux*ny))).tdiv (kQ nx ny))
def kX (nx ny ux uy re dr be:Int):Int:=W64 ((W64 (W64 (W64 (W64 (1000+re)*nx)*kA nx ny ux uy)-W64 (W64 (dr*ny)*kC nx ny ux uy))).tdiv (W64 (1000*be)))
def kY (nx ny ux uy re dr be:Int):Int:=W64 ((W64 (W64 (W64 (W64 (1000+re)*ny)*kA nx ny ux uy)+W64 (W64 (dr*nx)*kC nx ny ux uy))).tdiv (W64 (1000*be)))
def kK (nx ny ux uy re dr be:Int):Int×Int:=hv be ux uy 64 (kX nx ny ux uy re dr be) (kY nx ny ux uy re dr be)
def kOk (nx ny ux uy be:Int):Bool:=decide (0<kQ nx ny∧0<W64 (1000*be)∧0≤kD nx ny ux uy)
abbrev A35:PureT:=Bj [cPt,cPt,Cj,cI] [cPt] (fun x=>kOk x.1.1 x.1.2.1 x.2.1.1 x.2.1.2.1 x.2.2.2.1)
 (fun x=>(((kK x.1.1 x.1.2.1 x.2.1.1 x.2.1.2.1 x.2.2.1.1 x.2.2.1.2.1 x.2.2.2.1).1,(kK x.1.1 x.1.2.1 x.2.1.1 x.2.1.2.1 x.2.2.1.1 x.2.2.1.2.1 x.2.2.2.1).2,()),()))
noncomputable def Akz:Ctx:=G4 Tryz.prog plC [(235,Tryz.f235)] [((235,9),Ar Lnk A9j Ae0)]
theorem A5j:CtxOk Akz:=Bs Ak puC (fns_cons is_newKick A0) (Cc (by kernel_rfl) (by kernel_rfl) Aky)
def Um (nx ny ux uy re dr be:Int):Tree (TCTs [cPt]) :=
 bif kQ nx ny != 0 then bif kQ nx ny != 0 then bif W64 (1000*be)!=0 then bif W64 (1000*be)!=0 then .leaf (((kK nx ny ux uy re dr be).1,(kK nx ny ux uy re dr be).2,()),()) else .fail else .fail else .fail else .fail
theorem A5k (nx ny ux uy re dr be:Int) (h:kOk nx ny ux uy be=true):(Um nx ny ux uy re dr be).sat (fun y=>y=(((kK nx ny ux uy re dr be).1,(kK nx ny ux uy re dr be).2,()),())):=by
 obtain ⟨h1,h2,_⟩:=of_decide_eq_true h
 unfold Um
 rw [show (kQ nx ny != 0)=true by simp;omega,show (W64 (1000*be)!=0)=true by simp;omega]
 exact rfl
theorem Al0:A6 Tryz.prog 235 A35:=Bl A5j 3
 (fun x=>Um x.1.1 x.1.2.1 x.2.1.1 x.2.1.2.1 x.2.2.1.1 x.2.2.1.2.1 x.2.2.2.1) (fun x=>by kernel_rfl) fun _ hok _=>A5k _ _ _ _ _ _ _ hok
end V
end Go.Proofs.YtlangijnealfjaaGreat
namespace Go.Proofs.YtlangijnealfjaaGreat
open Go.RowKit
namespace V
end V
end Go.Proofs.YtlangijnealfjaaGreat
namespace Go.Proofs.YtlangijnealfjaaGreat
open Go.RowKit
namespace V
theorem D6 {a b A B:Int} (h1 : -A≤a) (h2:a≤A) (h3 : -B≤b) (h4:b≤B) : -(A*B)≤a*b∧a*b≤A*B:=by
 have e:(a*b).natAbs≤A.natAbs*B.natAbs:=by
  rw [Int.natAbs_mul]
  exact Nat.mul_le_mul (by omega) (by omega)
 have f:((A.natAbs*B.natAbs:Nat):Int)=A*B:=by
  rw [Int.natCast_mul,Int.natAbs_of_nonneg (by omega),Int.natAbs_of_nonneg (by omega)]
 omega
structure Bm where
 m:Int
 r:Int
 px:Int
 py:Int
 mx:Int
 my:Int
 rx:Int
 ry:Int
def Bm.ok (a:Bm):Bool:=Qo a.m a.r a.px a.py a.mx a.my a.rx a.ry
abbrev bm (b:TCT A3) (s:TCT B0):Bm:=⟨b.1,b.2.1,s.1.1,s.1.2.1,s.2.1.1,s.2.1.2.1,s.2.2.1.1,s.2.2.1.2.1⟩
structure Bm.Fit (a:Bm):Prop where
 m1:400≤a.m
 m2:a.m≤500
 r1:1000≤a.r
 r2:a.r≤4096
 p:fpt a.px a.py=true
 px1 : -4194304≤a.px
 px2:a.px≤4194304
 py1 : -4194304≤a.py
 py2:a.py≤4194304
 mx1 : -16777216≤a.mx
 mx2:a.mx≤16777216
 my1 : -16777216≤a.my
 my2:a.my≤16777216
 rx1 : -(32*a.m)≤a.rx
 rx2:a.rx≤32*a.m-1
 ry1 : -(32*a.m)≤a.ry
 ry2:a.ry≤32*a.m-1
theorem Bm.fit {a:Bm} (h:a.ok=true):a.Fit:=by
 unfold Bm.ok Qo Jc B9 at h
 simp only [Bool.and_eq_true,Bool.not_eq_true'] at h
 obtain ⟨⟨h1,h2⟩,h3,⟨h4,h5⟩,h6,h7⟩:=h
 have:=F4 h1;have:=F4 h2;have:=F4 h4;have:=F4 h5;have:=F4 h6;have:=F4 h7
 have h3':=h3
 unfold fpt at h3'
 obtain ⟨k1,k2,k3,k4⟩:=of_decide_eq_true h3'
 exact ⟨by omega,by omega,by omega,by omega,h3,k1,k2,k3,k4,by omega,by omega,by omega,by omega,by omega,by omega,by omega,by omega⟩
def uX (a b:Bm):Int:=b.m*a.mx-a.m*b.mx
def uY (a b:Bm):Int:=b.m*a.my-a.m*b.my
def nX (a b:Bm):Int:=b.px-a.px
def nY (a b:Bm):Int:=b.py-a.py
def uN (a b:Bm):Int:=uX a b*nX a b+uY a b*nY a b
abbrev Q3:=TCTs [cPt,cI]
def Vp (a b:Bm) (re dr:Int):Q3 :=
 bif !(a.ok&&(b.ok&&Hw re dr)) then ((0,0,()),2,()) else
 bif !Hl a.px a.py b.px b.py (a.r+b.r) then ((0,0,()),5,()) else
 bif decide (uN a b≤0) then ((0,0,()),10,()) else
 (((kK (nX a b) (nY a b) (uX a b) (uY a b) re dr (a.m+b.m)).1,(kK (nX a b) (nY a b) (uX a b) (uY a b) re dr (a.m+b.m)).2,()),0,())
structure Pair (a b:Bm):Prop where
 ux1 : -16777216000≤uX a b
 ux2:uX a b≤16777216000
 uy1 : -16777216000≤uY a b
 uy2:uY a b≤16777216000
 wux:W64 (W64 (b.m*a.mx)-W64 (a.m*b.mx))=uX a b
 wuy:W64 (W64 (b.m*a.my)-W64 (a.m*b.my))=uY a b
 wnx:W64 (b.px-a.px)=nX a b
 wny:W64 (b.py-a.py)=nY a b
 wr:W64 (a.r+b.r)=a.r+b.r
 wm:W64 (a.m+b.m)=a.m+b.m
 cl:(fpt a.px a.py&&(fpt b.px b.py&&decide (0≤a.r+b.r∧a.r+b.r≤131072)))=true
 dot:W64 (W64 (uX a b*nX a b)+W64 (uY a b*nY a b))=uN a b
theorem pair {a b:Bm} (ha:a.Fit) (hb:b.Fit):Pair a b:=by
 have ⟨a1,a2⟩:=D6 (A:=500) (B:=16777216) (show -500≤b.m by have:=hb.m1;omega) hb.m2 ha.mx1 ha.mx2
 have ⟨a3,a4⟩:=D6 (A:=500) (B:=16777216) (show -500≤a.m by have:=ha.m1;omega) ha.m2 hb.mx1 hb.mx2
 have ⟨b1,b2⟩:=D6 (A:=500) (B:=16777216) (show -500≤b.m by have:=hb.m1;omega) hb.m2 ha.my1 ha.my2
 have ⟨b3,b4⟩:=D6 (A:=500) (B:=16777216) (show -500≤a.m by have:=ha.m1;omega) ha.m2 hb.my1 hb.my2
 have hx1 : -16777216000≤uX a b:=by unfold uX;omega
 have hx2:uX a b≤16777216000:=by unfold uX;omega
 have hy1 : -16777216000≤uY a b:=by unfold uY;omega
 have hy2:uY a b≤16777216000:=by unfold uY;omega
 have p1:=ha.px1;have p2:=ha.px2;have p3:=ha.py1;have p4:=ha.py2
 have q1:=hb.px1;have q2:=hb.px2;have q3:=hb.py1;have q4:=hb.py2
 have c1:=ha.r1;have c2:=ha.r2;have c3:=hb.r1;have c4:=hb.r2
 have d1:=ha.m1;have d2:=ha.m2;have d3:=hb.m1;have d4:=hb.m2
 have ⟨e1,e2⟩:=D6 (A:=16777216000) (B:=8388608) hx1 hx2 (show -8388608≤nX a b by unfold nX;omega) (show nX a b≤8388608 by unfold nX;omega)
 have ⟨e3,e4⟩:=D6 (A:=16777216000) (B:=8388608) hy1 hy2 (show -8388608≤nY a b by unfold nY;omega) (show nY a b≤8388608 by unfold nY;omega)
 refine ⟨hx1,hx2,hy1,hy2,?_,?_,A7 (by omega) (by omega),A7 (by omega) (by omega),A7 (by omega) (by omega),A7 (by omega) (by omega),?_,?_⟩
 ·rw [show W64 (b.m*a.mx)=_ from A7 (by omega) (by omega),show W64 (a.m*b.mx)=_ from A7 (by omega) (by omega)]
  exact A7 (by omega) (by omega)
 ·rw [show W64 (b.m*a.my)=_ from A7 (by omega) (by omega),show W64 (a.m*b.my)=_ from A7 (by omega) (by omega)]
  exact A7 (by omega) (by omega)
 ·rw [ha.p,hb.p,decide_eq_true (show 0≤a.r+b.r∧a.r+b.r≤131072 by omega)];rfl
 ·rw [show W64 (uX a b*nX a b)=_ from A7 (by omega) (by omega),show W64 (uY a b*nY a b)=_ from A7 (by omega) (by omega)]
  exact A7 (by omega) (by omega)
theorem Bf7 {a b:Bm} (ha:a.Fit) (hb:b.Fit):kQ (nX a b) (nY a b)=sq a.px a.py b.px b.py:=by
 have p1:=ha.px1;have p2:=ha.px2;have p3:=ha.py1;have p4:=ha.py2
 have q1:=hb.px1;have q2:=hb.px2;have q3:=hb.py1;have q4:=hb.py2
 have ⟨e1,e2⟩:=D6 (A:=8388608) (B:=8388608) (show -8388608≤nX a b by unfold nX;omega) (show nX a b≤8388608 by unfold nX;omega) (show -8388608≤nX a b by unfold nX;omega) (show nX a b≤8388608 by unfold nX;omega)
 have ⟨e3,e4⟩:=D6 (A:=8388608) (B:=8388608) (show -8388608≤nY a b by unfold nY;omega) (show nY a b≤8388608 by unfold nY;omega) (show -8388608≤nY a b by unfold nY;omega) (show nY a b≤8388608 by unfold nY;omega)
 unfold kQ
 rw [show W64 (nX a b*nX a b)=_ from A7 (by omega) (by omega),show W64 (nY a b*nY a b)=_ from A7 (by omega) (by omega)]
 exact A7 (by omega) (by omega)
theorem Al1 {px py qx qy s:Int} (h:Hl px py qx qy s=true) (hs:2000≤s):3515625≤sq px py qx qy:=by
 unfold Hl at h
 have h1:=(of_decide_eq_true h).2
 have h2:2000*2000≤s*s:=Gz (by omega) hs
 omega
theorem B22 {a b:Bm} (ha:a.Fit) (hb:b.Fit) (hc:Hl a.px a.py b.px b.py (a.r+b.r)=true) (hd:¬ uN a b≤0):kOk (nX a b) (nY a b) (uX a b) (uY a b) (a.m+b.m)=true:=by
 have h1:=Al1 hc (by have:=ha.r1;have:=hb.r1;omega)
 have h2:=Bf7 ha hb
 have h3:=(pair ha hb).dot
 have d1:=ha.m1;have d2:=ha.m2;have d3:=hb.m1;have d4:=hb.m2
 unfold kOk kD
 rw [h2,h3,show W64 (1000*(a.m+b.m))=1000*(a.m+b.m) from A7 (by omega) (by omega)]
 exact decide_eq_true ⟨by omega,by omega,by omega⟩
def Ae2 (a b:Bm) (re dr:Int):Tree Q3 :=
 bif okE a.ok != 0 then .leaf ((0,0,()),2,()) else bif okE b.ok != 0 then .leaf ((0,0,()),2,()) else bif okE (Hw re dr)!=0 then .leaf ((0,0,()),2,()) else
 bif fpt a.px a.py&&(fpt b.px b.py&&decide (0≤W64 (a.r+b.r)∧W64 (a.r+b.r)≤131072)) then
  bif !Hl a.px a.py b.px b.py (W64 (a.r+b.r)) then .leaf ((0,0,()),5,()) else
  bif decide (W64 (W64 (W64 (b.px-a.px)*W64 (W64 (b.m*a.mx)-W64 (a.m*b.mx)))+W64 (W64 (b.py-a.py)*W64 (W64 (b.m*a.my)-W64 (a.m*b.my))))≤0) then .leaf ((0,0,()),10,()) else
  bif kOk (W64 (b.px-a.px)) (W64 (b.py-a.py)) (W64 (W64 (b.m*a.mx)-W64 (a.m*b.mx))) (W64 (W64 (b.m*a.my)-W64 (a.m*b.my))) (W64 (a.m+b.m)) then
   .leaf (((kK (W64 (b.px-a.px)) (W64 (b.py-a.py)) (W64 (W64 (b.m*a.mx)-W64 (a.m*b.mx))) (W64 (W64 (b.m*a.my)-W64 (a.m*b.my))) re dr (W64 (a.m+b.m))).1,
    (kK (W64 (b.px-a.px)) (W64 (b.py-a.py)) (W64 (W64 (b.m*a.mx)-W64 (a.m*b.mx))) (W64 (W64 (b.m*a.my)-W64 (a.m*b.my))) re dr (W64 (a.m+b.m))).2,()),0,())
  else .fail
 else .fail
theorem Al2 (a b:Bm) (re dr:Int):(Ae2 a b re dr).sat (fun y=>y=Vp a b re dr):=by
 unfold Ae2 Vp okE
 cases ha:a.ok with
 | false=>exact rfl
 | true=>cases hb:b.ok with
  | false=>exact rfl
  | true=>cases hc:Hw re dr with
   | false=>exact rfl
   | true =>
    have fa:=Bm.fit ha
    have fb:=Bm.fit hb
    have P:=pair fa fb
    rw [P.wr,P.cl,P.wux,P.wuy,P.wnx,P.wny,P.wm,Int.mul_comm (nX a b) (uX a b),Int.mul_comm (nY a b) (uY a b),P.dot]
    cases hcl:Hl a.px a.py b.px b.py (a.r+b.r) with
    | false=>exact rfl
    | true =>
     by_cases hd:uN a b≤0
     ·rw [decide_eq_true hd];exact rfl
     ·rw [decide_eq_false hd,B22 fa fb hcl hd];exact rfl
abbrev Bj5 (y:Q3):Q3:=((y.1.1,y.1.2.1,()),y.2.1,())
abbrev Ats:PureT:=Bj [A3,B0,A3,B0,Cj] [cPt,cI] (fun _=>true) (fun x=>Bj5 (Vp (bm x.1 x.2.1) (bm x.2.2.1 x.2.2.2.1) x.2.2.2.2.1.1 x.2.2.2.2.1.2.1))
theorem is_Kick:FnIs Tryz.prog (237,Tryz.f237):=⟨Tryz.func237,by kernel_rfl,by kernel_rfl⟩
theorem is_meet:FnIs Tryz.prog (245,Tryz.f245):=⟨Tryz.func245,by kernel_rfl,by kernel_rfl⟩
def plK:List (Nat×PureT):=(235,A35)::(124,Fu)::(125,Gm)::(191,A9i)::plC
theorem puK:D3 Tryz.prog plK:=puOk_cons is_newKick.plain Al0 (puOk_cons is_CheckBounce.plain Lh (puOk_cons is_CheckMotion.plain Q2 (puOk_cons is_rcheck.plain Atq puC)))
theorem Ba7:A6 Tryz.prog 237 Ats:=Bl (Ap Ak puK (fns_cons is_Kick (fns_cons is_meet A0))) 6
 (fun x=>Ae2 (bm x.1 x.2.1) (bm x.2.2.1 x.2.2.2.1) x.2.2.2.2.1.1 x.2.2.2.2.1.2.1) (fun x=>by kernel_rfl) fun _ _ _=>Al2 _ _ _ _
end V
end Go.Proofs.YtlangijnealfjaaGreat
namespace Go.Proofs.YtlangijnealfjaaGreat
open Go.RowKit
namespace V
theorem is_Step:FnIs Tryz.prog (104,Tryz.f104):=⟨Tryz.func104,by kernel_rfl,by kernel_rfl⟩
theorem is_steps:FnIs Tryz.prog (173,Tryz.f173):=⟨Tryz.func173,by kernel_rfl,by kernel_rfl⟩
theorem is_rollstep:FnIs Tryz.prog (225,Tryz.f225):=⟨Tryz.func225,by kernel_rfl,by kernel_rfl⟩
theorem is_rollstep1:FnIs Tryz.prog (243,Tryz.f243):=⟨Tryz.func243,by kernel_rfl,by kernel_rfl⟩
theorem is_each:FnIs Tryz.prog (238,Tryz.f238):=⟨Tryz.func238,by kernel_rfl,by kernel_rfl⟩
theorem is_each1:FnIs Tryz.prog (246,Tryz.f246):=⟨Tryz.func246,by kernel_rfl,by kernel_rfl⟩
theorem is_each2:FnIs Tryz.prog (247,Tryz.f247):=⟨Tryz.func247,by kernel_rfl,by kernel_rfl⟩
theorem Ai5:A6 Tryz.prog 246 (Tc 0):=B5o (Ap Ak puOk_nil (fns_cons is_each1 A0)) 2 (fun id row st col=>by kernel_rfl)
theorem Ai6:A6 Tryz.prog 247 (Tc 1):=B5o (Ap Ak puOk_nil (fns_cons is_each2 A0)) 2 (fun id row st col=>by kernel_rfl)
def plS:List (Nat×PureT):=(246,Tc 0)::(247,Tc 1)::(102,A9c)::plK
theorem puS:D3 Tryz.prog plS:=puOk_cons is_each1.plain Ai5 (puOk_cons is_each2.plain Ai6 (puOk_cons is_Divide.plain At2 puK))
abbrev Al3:=TCTs [B0,cI]
abbrev Ff:TCT B0:=((0,0,()),(0,0,()),(0,0,()),())
def sX (a:Bm):Int:=a.px+DW (a.mx+a.rx) (64*a.m)
def sY (a:Bm):Int:=a.py+DW (a.my+a.ry) (64*a.m)
def M3 (a:Bm):Al3:=bif !a.ok then (Ff,2,()) else bif !fpt (sX a) (sY a) then (Ff,4,()) else
 (((sX a,sY a,()),(a.mx,a.my,()),(DR (a.mx+a.rx) (64*a.m),DR (a.my+a.ry) (64*a.m),()),()),0,())
def Ae3 (a:Bm):Tree Al3 :=
 bif okE a.ok != 0 then .leaf (Ff,okE a.ok,()) else
 bif !Hv (W64 (a.px+DvW (W64 (a.mx+a.rx)) (W64 (64*a.m)))) (W64 (a.py+DvW (W64 (a.my+a.ry)) (W64 (64*a.m))))==0 then .leaf (Ff,4,()) else
 .leaf (((W64 (a.px+DvW (W64 (a.mx+a.rx)) (W64 (64*a.m))),W64 (a.py+DvW (W64 (a.my+a.ry)) (W64 (64*a.m))),()),(a.mx,a.my,()),
  (DvR (W64 (a.mx+a.rx)) (W64 (64*a.m)),DvR (W64 (a.my+a.ry)) (W64 (64*a.m)),()),()),0,())
structure StepW (a:Bm):Prop where
 w1:W64 (a.mx+a.rx)=a.mx+a.rx
 w2:W64 (a.my+a.ry)=a.my+a.ry
 w3:W64 (64*a.m)=64*a.m
 d1:Ld (a.mx+a.rx) (64*a.m)=true
 d2:Ld (a.my+a.ry) (64*a.m)=true
 x:W64 (a.px+DW (a.mx+a.rx) (64*a.m))=sX a
 y:W64 (a.py+DW (a.my+a.ry) (64*a.m))=sY a
 v1:DvW (a.mx+a.rx) (64*a.m)=DW (a.mx+a.rx) (64*a.m)
 v2:DvW (a.my+a.ry) (64*a.m)=DW (a.my+a.ry) (64*a.m)
 v3:DvR (a.mx+a.rx) (64*a.m)=DR (a.mx+a.rx) (64*a.m)
 v4:DvR (a.my+a.ry) (64*a.m)=DR (a.my+a.ry) (64*a.m)
theorem Bf8 {a:Bm} (h:a.Fit):StepW a:=by
 obtain ⟨m1,m2,r1,r2,p,px1,px2,py1,py2,mx1,mx2,my1,my2,rx1,rx2,ry1,ry2⟩:=h
 have ⟨b1,b2⟩:=Ahl (a.mx+a.rx) (64*a.m) 33554432 (by omega) (by omega) (by omega) (by omega)
 have ⟨b3,b4⟩:=Ahl (a.my+a.ry) (64*a.m) 33554432 (by omega) (by omega) (by omega) (by omega)
 have ⟨c1,c2,_⟩:=Asp (a.mx+a.rx) (64*a.m) (by omega) (by omega) (by omega) (by omega)
 have ⟨c3,c4,_⟩:=Asp (a.my+a.ry) (64*a.m) (by omega) (by omega) (by omega) (by omega)
 exact ⟨A7 (by omega) (by omega),A7 (by omega) (by omega),A7 (by omega) (by omega),decide_eq_true (by omega),decide_eq_true (by omega),
  A7 (by omega) (by omega),A7 (by omega) (by omega),c1,c3,c2,c4⟩
theorem Al4 (a:Bm):(Ae3 a).sat (fun y=>y=M3 a):=by
 unfold Ae3 M3 okE
 cases ha:a.ok with
 | false=>exact rfl
 | true =>
  have w:=Bf8 (Bm.fit ha)
  rw [w.w1,w.w2,w.w3,w.v1,w.v2,w.v3,w.v4,w.x,w.y]
  unfold Hv
  cases fpt (sX a) (sY a) <;> exact rfl
abbrev etaS (y:TCT B0):TCT B0:=((y.1.1,y.1.2.1,()),(y.2.1.1,y.2.1.2.1,()),(y.2.2.1.1,y.2.2.1.2.1,()),())
abbrev Bf9 (y:Al3):Al3:=(etaS y.1,y.2.1,())
abbrev Att:PureT:=Bj [A3,B0] [B0,cI] (fun _=>true) (fun x=>Bf9 (M3 (bm x.1 x.2.1)))
theorem Ba8:A6 Tryz.prog 104 Att:=Bl (Ap Ak puS (fns_cons is_Step (fns_cons is_steps (fns_cons is_rollstep (fns_cons is_rollstep1 (fns_cons is_each A0)))))) 8
 (fun x=>Ae3 (bm x.1 x.2.1)) (fun x=>by kernel_rfl) fun _ _ _=>Al4 _
end V
end Go.Proofs.YtlangijnealfjaaGreat
namespace Go.Proofs.YtlangijnealfjaaGreat
open Go.RowKit
namespace V
theorem is_Bounce:FnIs Tryz.prog (199,Tryz.f199):=⟨Tryz.func199,by kernel_rfl,by kernel_rfl⟩
theorem is_Bounce1:FnIs Tryz.prog (239,Tryz.f239):=⟨Tryz.func239,by kernel_rfl,by kernel_rfl⟩
theorem is_Bump:FnIs Tryz.prog (195,Tryz.f195):=⟨Tryz.func195,by kernel_rfl,by kernel_rfl⟩
def plN:List (Nat×PureT):=(246,Tc 0)::(247,Tc 1)::(237,Ats)::(43,Vl)::plK
theorem puN:D3 Tryz.prog plN:=puOk_cons is_each1.plain Ai5 (puOk_cons is_each2.plain Ai6 (puOk_cons is_Kick.plain Ba7 (puOk_cons is_CheckDisc.plain Vm puK)))
abbrev Al5:=TCTs [B0,B0,cI]
abbrev Bj6 (y:Al5):Al5:=(etaS y.1,etaS y.2.1,y.2.2.1,())
def Bm.moved (a:Bm) (x y:Int):TCT B0:=((a.px,a.py,()),(x,y,()),(a.rx,a.ry,()),())
def Hm (a b:Bm) (k:Q3):Al5 :=
 bif k.2.1 != 0 then (Ff,Ff,k.2.1,()) else
 bif !B9 (W64 (a.mx-k.1.1)) (W64 (a.my-k.1.2.1)) then (Ff,Ff,4,()) else
 bif !B9 (W64 (b.mx+k.1.1)) (W64 (b.my+k.1.2.1)) then (Ff,Ff,4,()) else
 (a.moved (W64 (a.mx-k.1.1)) (W64 (a.my-k.1.2.1)),b.moved (W64 (b.mx+k.1.1)) (W64 (b.my+k.1.2.1)),0,())
def C4 (a b:Bm) (re dr:Int):Al5:=Hm a b (Vp a b re dr)
def Atu (a b:Bm) (k:Q3):Tree Al5 :=
 bif k.2.1 != 0 then .leaf (Ff,Ff,k.2.1,()) else
 bif !B9 (W64 (a.mx-k.1.1)) (W64 (a.my-k.1.2.1)) then .leaf (Ff,Ff,4,()) else
 bif !B9 (W64 (b.mx+k.1.1)) (W64 (b.my+k.1.2.1)) then .leaf (Ff,Ff,4,()) else
 .leaf (a.moved (W64 (a.mx-k.1.1)) (W64 (a.my-k.1.2.1)),b.moved (W64 (b.mx+k.1.1)) (W64 (b.my+k.1.2.1)),0,())
theorem Atv (a b:Bm) (k:Q3):(Atu a b k).sat (fun y=>y=Hm a b k):=by
 unfold Atu Hm
 cases k.2.1 != 0 <;> cases B9 (W64 (a.mx-k.1.1)) (W64 (a.my-k.1.2.1)) <;> cases B9 (W64 (b.mx+k.1.1)) (W64 (b.my+k.1.2.1)) <;> exact rfl
abbrev A9k:PureT:=Bj [A3,B0,A3,B0,Cj] [B0,B0,cI] (fun _=>true) (fun x=>Bj6 (C4 (bm x.1 x.2.1) (bm x.2.2.1 x.2.2.2.1) x.2.2.2.2.1.1 x.2.2.2.2.1.2.1))
theorem Atw:A6 Tryz.prog 199 A9k:=Bl (Ap Ak puN (fns_cons is_Bounce (fns_cons is_Bounce1 (fns_cons is_each A0)))) 6
 (fun x=>Atu (bm x.1 x.2.1) (bm x.2.2.1 x.2.2.2.1) (Vp (bm x.1 x.2.1) (bm x.2.2.1 x.2.2.2.1) x.2.2.2.2.1.1 x.2.2.2.2.1.2.1)) (fun x=>by kernel_rfl) fun _ _ _=>Atv _ _ _
def dN (a:Bm) (qx qy:Int):Int:=a.mx*(qx-a.px)+a.my*(qy-a.py)
def A9l (a:Bm) (qx qy q re dr:Int):Al3 :=
 bif !(a.ok&&(Le qx qy q&&Hw re dr)) then (Ff,2,()) else bif !Hl a.px a.py qx qy (a.r+q) then (Ff,5,()) else bif decide (dN a qx qy≤0) then (Ff,10,()) else
 bif !B9 (W64 (a.mx-(kK (qx-a.px) (qy-a.py) a.mx a.my re dr 1).1)) (W64 (a.my-(kK (qx-a.px) (qy-a.py) a.mx a.my re dr 1).2)) then (Ff,4,()) else
 (a.moved (W64 (a.mx-(kK (qx-a.px) (qy-a.py) a.mx a.my re dr 1).1)) (W64 (a.my-(kK (qx-a.px) (qy-a.py) a.mx a.my re dr 1).2)),0,())
def Ae4 (a:Bm) (qx qy q re dr:Int):Tree Al3 :=
 bif okE a.ok != 0 then .leaf (Ff,2,()) else bif Z0 qx qy q != 0 then .leaf (Ff,2,()) else bif okE (Hw re dr)!=0 then .leaf (Ff,2,()) else
 bif fpt a.px a.py&&(fpt qx qy&&decide (0≤W64 (a.r+q)∧W64 (a.r+q)≤131072)) then
 bif !Hl a.px a.py qx qy (W64 (a.r+q)) then .leaf (Ff,5,()) else
 bif decide (W64 (W64 (W64 (qx-a.px)*a.mx)+W64 (W64 (qy-a.py)*a.my))≤0) then .leaf (Ff,10,()) else
 bif kOk (W64 (qx-a.px)) (W64 (qy-a.py)) a.mx a.my 1 then
 bif !B9 (W64 (a.mx-(kK (W64 (qx-a.px)) (W64 (qy-a.py)) a.mx a.my re dr 1).1)) (W64 (a.my-(kK (W64 (qx-a.px)) (W64 (qy-a.py)) a.mx a.my re dr 1).2)) then .leaf (Ff,4,()) else
 .leaf (a.moved (W64 (a.mx-(kK (W64 (qx-a.px)) (W64 (qy-a.py)) a.mx a.my re dr 1).1)) (W64 (a.my-(kK (W64 (qx-a.px)) (W64 (qy-a.py)) a.mx a.my re dr 1).2)),0,())
 else .fail else .fail
theorem Al6 (a:Bm) (qx qy q re dr:Int):(Ae4 a qx qy q re dr).sat (fun y=>y=A9l a qx qy q re dr):=by
 unfold Ae4 A9l okE Z0
 cases ha:a.ok with
 | false=>exact rfl
 | true=>cases hb:Le qx qy q with
  | false=>exact rfl
  | true=>cases hc:Hw re dr with
   | false=>exact rfl
   | true =>
    have fa:=Bm.fit ha
    unfold Le at hb
    simp only [Bool.and_eq_true,Bool.not_eq_true'] at hb
    obtain ⟨hp,hq⟩:=hb
    have hq':=F4 hq
    have hp':=hp
    unfold fpt at hp'
    obtain ⟨q1,q2,q3,q4⟩:=of_decide_eq_true hp'
    have p1:=fa.px1;have p2:=fa.px2;have p3:=fa.py1;have p4:=fa.py2
    have c1:=fa.r1;have c2:=fa.r2
    have ⟨e1,e2⟩:=D6 (A:=16777216) (B:=8388608) (b:=qx-a.px) fa.mx1 fa.mx2 (by omega) (by omega)
    have ⟨e3,e4⟩:=D6 (A:=16777216) (B:=8388608) (b:=qy-a.py) fa.my1 fa.my2 (by omega) (by omega)
    have wr:W64 (a.r+q)=a.r+q:=A7 (by omega) (by omega)
    have wx:W64 (qx-a.px)=qx-a.px:=A7 (by omega) (by omega)
    have wy:W64 (qy-a.py)=qy-a.py:=A7 (by omega) (by omega)
    have wd:W64 (W64 (a.mx*(qx-a.px))+W64 (a.my*(qy-a.py)))=dN a qx qy:=by
     rw [show W64 (a.mx*(qx-a.px))=_ from A7 (by omega) (by omega),show W64 (a.my*(qy-a.py))=_ from A7 (by omega) (by omega)]
     exact A7 (by omega) (by omega)
    rw [wr,wx,wy,Int.mul_comm (qx-a.px) a.mx,Int.mul_comm (qy-a.py) a.my,wd,fa.p,hp,decide_eq_true (show 0≤a.r+q∧a.r+q≤131072 by omega)]
    cases hcl:Hl a.px a.py qx qy (a.r+q) with
    | false=>exact rfl
    | true =>
     by_cases hd:dN a qx qy≤0
     ·rw [decide_eq_true hd];exact rfl
     ·have hs:1001*1001≤(a.r+q)*(a.r+q):=Gz (by omega) (by omega)
      have hcl':=hcl
      unfold Hl at hcl'
      have hsq:=(of_decide_eq_true hcl').2
      have ⟨g1,g2⟩:=D6 (a:=qx-a.px) (b:=qx-a.px) (A:=8388608) (B:=8388608) (by omega) (by omega) (by omega) (by omega)
      have ⟨g3,g4⟩:=D6 (a:=qy-a.py) (b:=qy-a.py) (A:=8388608) (B:=8388608) (by omega) (by omega) (by omega) (by omega)
      have hk:kQ (qx-a.px) (qy-a.py)=sq a.px a.py qx qy:=by
       unfold kQ
       rw [show W64 ((qx-a.px)*(qx-a.px))=_ from A7 (by omega) (by omega),show W64 ((qy-a.py)*(qy-a.py))=_ from A7 (by omega) (by omega)]
       exact A7 (by omega) (by omega)
      have hok:kOk (qx-a.px) (qy-a.py) a.mx a.my 1=true:=by
       unfold kOk kD
       rw [hk,wd]
       exact decide_eq_true ⟨by omega,by decide,by omega⟩
      rw [decide_eq_false hd,hok]
      cases B9 (W64 (a.mx-(kK (qx-a.px) (qy-a.py) a.mx a.my re dr 1).1)) (W64 (a.my-(kK (qx-a.px) (qy-a.py) a.mx a.my re dr 1).2)) <;> exact rfl
abbrev Atx:PureT:=Bj [A3,B0,A4,Cj] [B0,cI] (fun _=>true) (fun x=>Bf9 (A9l (bm x.1 x.2.1) x.2.2.1.1.1 x.2.2.1.1.2.1 x.2.2.1.2.1 x.2.2.2.1.1 x.2.2.2.1.2.1))
theorem Ba9:A6 Tryz.prog 195 Atx:=Bl (Ap Ak puN (fns_cons is_Bump A0)) 6
 (fun x=>Ae4 (bm x.1 x.2.1) x.2.2.1.1.1 x.2.2.1.1.2.1 x.2.2.1.2.1 x.2.2.2.1.1 x.2.2.2.1.2.1) (fun x=>by kernel_rfl) fun _ _ _=>Al6 _ _ _ _ _ _
end V
end Go.Proofs.YtlangijnealfjaaGreat
namespace Go.Proofs.YtlangijnealfjaaGreat
open Go.RowKit
namespace V
def stB (a:Bm):Bm:={ a with px:=sX a,py:=sY a,rx:=DR (a.mx+a.rx) (64*a.m),ry:=DR (a.my+a.ry) (64*a.m) }
def stE:Nat→Bm→Bm
 | 0,a=>a
 | k+1,a=>bif fpt (sX a) (sY a) then stE k (stB a) else stB a
abbrev S6:=Int×Int×Int×Int×Int×Int×Unit
def Lrt:Lay:={ keys:=[2,3,4,6,7,8],ks:=[.d cI,.p 0 0 0 0,.p 1 0 0 0,.p 2 0 0 0,.d cI,.d cI],bs:=[(0,68,[.d cI,.d cI]),(1,84,[.d cI,.d cI,.d cI,.d cI,.d cI,.d cI]),(2,84,[.d cI,.d cI,.d cI,.d cI,.d cI,.d cI])],n:=41,nx:=1000,marks:=[] }
def hB (g:Lrt.T):Bm:=⟨g.2.1.1,g.2.1.2.1,g.2.2.1.1,g.2.2.1.2.1,g.2.2.1.2.2.1,g.2.2.1.2.2.2.1,g.2.2.1.2.2.2.2.1,g.2.2.1.2.2.2.2.2.1⟩
end V
end Go.Proofs.YtlangijnealfjaaGreat
namespace Go.Proofs.YtlangijnealfjaaGreat
open Go.RowKit
namespace V
theorem is_Slow:FnIs Tryz.prog (194,Tryz.f194):=⟨Tryz.func194,by kernel_rfl,by kernel_rfl⟩
def slN (x y:Int):Int:=rt (64*(x*x+y*y))
def Ni (x y l:Int):TCTs [cPt,cI] :=
 bif !B9 x y then ((0,0,()),2,()) else bif Bd l 0 33554432 then ((0,0,()),3,()) else bif decide (slN x y≤8*l) then ((0,0,()),0,()) else
 (((x*(slN x y-8*l)).tdiv (slN x y),(y*(slN x y-8*l)).tdiv (slN x y),()),0,())
def slQ (x y:Int):Int:=W64 (64*W64 (W64 (x*x)+W64 (y*y)))
def slP (x y l n:Int):TCTs [cPt,cI]:=((W64 ((W64 (x*W64 (n-W64 (8*l)))).tdiv n),W64 ((W64 (y*W64 (n-W64 (8*l)))).tdiv n),()),0,())
def Ae5 (x y l:Int):Tree (TCTs [cPt,cI]) :=
 bif !B9 x y then .leaf ((0,0,()),2,()) else bif Bd l 0 33554432 then .leaf ((0,0,()),3,()) else
 bif decide (W64 (RtV (slQ x y)-W64 (8*l))≤0) then .leaf ((0,0,()),0,()) else
 bif RtV (slQ x y)!=0 then bif RtV (slQ x y)!=0 then .leaf (slP x y l (RtV (slQ x y))) else .fail else .fail
theorem A9m {a n A:Int} (h1 : -A≤a) (h2:a≤A) : -A≤a.tdiv n∧a.tdiv n≤A:=by
 have t1:=Int.natAbs_tdiv a n
 have t3:=Nat.div_le_self a.natAbs n.natAbs
 have t4:(a.tdiv n).natAbs≤a.natAbs:=t1 ▸ t3
 generalize a.tdiv n=z at *
 omega
structure SlW (x y l:Int):Prop where
 q:slQ x y=64*(x*x+y*y)
 q0:0≤64*(x*x+y*y)
 q1:64*(x*x+y*y)≤36028797018963968
 v:RtV (64*(x*x+y*y))=slN x y
 n0:0≤slN x y
 n1:slN x y≤268435456
 l0:W64 (8*l)=8*l
 d:W64 (slN x y-8*l)=slN x y-8*l
 p:8*l<slN x y→slP x y l (slN x y)=(((x*(slN x y-8*l)).tdiv (slN x y),(y*(slN x y-8*l)).tdiv (slN x y),()),0,())
theorem Bj7 {x y l:Int} (h:B9 x y=true) (k:Bd l 0 33554432=false):SlW x y l:=by
 unfold B9 at h
 simp only [Bool.and_eq_true,Bool.not_eq_true'] at h
 have:=F4 h.1;have:=F4 h.2;have:=F4 k
 have ⟨a1,a2⟩:=D6 (a:=x) (b:=x) (A:=16777216) (B:=16777216) (by omega) (by omega) (by omega) (by omega)
 have ⟨b1,b2⟩:=D6 (a:=y) (b:=y) (A:=16777216) (B:=16777216) (by omega) (by omega) (by omega) (by omega)
 have c1:0≤x*x:=by rcases Int.le_total 0 x with c | c;exact Int.mul_nonneg c c;exact Int.mul_nonneg_of_nonpos_of_nonpos c c
 have c2:0≤y*y:=by rcases Int.le_total 0 y with c | c;exact Int.mul_nonneg c c;exact Int.mul_nonneg_of_nonpos_of_nonpos c c
 have q:slQ x y=64*(x*x+y*y):=by
  unfold slQ
  rw [show W64 (x*x)=x*x from A7 (by omega) (by omega),show W64 (y*y)=y*y from A7 (by omega) (by omega),show W64 (x*x+y*y)=x*x+y*y from A7 (by omega) (by omega)]
  exact A7 (by omega) (by omega)
 have q0:0≤64*(x*x+y*y):=by omega
 have ⟨n0,n3,_⟩:=Ip _ q0
 have n1:rt (64*(x*x+y*y))≤268435456:=B5c _ _ q0 (by omega) (by omega)
 have e1:W64 (8*l)=8*l:=A7 (by omega) (by omega)
 have e2:W64 (slN x y-8*l)=slN x y-8*l:=by unfold slN;exact A7 (by omega) (by omega)
 refine ⟨q,q0,by omega,?_,n0,n1,e1,e2,fun g=>?_⟩
 ·unfold RtV Aku slN
  rw [if_pos (by simp;omega)]
 ·unfold slP
  have n1':slN x y≤268435456:=n1
  have n0':0≤slN x y:=n0
  rw [e1,e2]
  have ⟨f1,f2⟩:=D6 (a:=x) (b:=slN x y-8*l) (A:=16777216) (B:=268435456) (by omega) (by omega) (by omega) (by omega)
  have ⟨f3,f4⟩:=D6 (a:=y) (b:=slN x y-8*l) (A:=16777216) (B:=268435456) (by omega) (by omega) (by omega) (by omega)
  rw [show W64 (x*(slN x y-8*l))=x*(slN x y-8*l) from A7 (by omega) (by omega),show W64 (y*(slN x y-8*l))=y*(slN x y-8*l) from A7 (by omega) (by omega)]
  have ⟨t1,t2⟩:=A9m (n:=slN x y) f1 f2
  have ⟨t3,t4⟩:=A9m (n:=slN x y) f3 f4
  rw [show W64 ((x*(slN x y-8*l)).tdiv (slN x y))=(x*(slN x y-8*l)).tdiv (slN x y) from A7 (by omega) (by omega),show W64 ((y*(slN x y-8*l)).tdiv (slN x y))=(y*(slN x y-8*l)).tdiv (slN x y) from A7 (by omega) (by omega)]
theorem Al7 (x y l:Int):(Ae5 x y l).sat (fun r=>r=Ni x y l):=by
 unfold Ae5 Ni
 cases h:B9 x y with
 | false=>exact rfl
 | true =>
  cases k:Bd l 0 33554432 with
  | true=>exact rfl
  | false =>
   have w:=Bj7 h k
   rw [w.q,w.v,w.l0,w.d]
   have:=w.n0
   rcases Int.lt_or_le (8*l) (slN x y) with g | g
   ·have:=F4 k
    rw [show decide (slN x y-8*l≤0)=false by simp;omega,show decide (slN x y≤8*l)=false by simp;omega,show (slN x y != 0)=true by simp;omega,w.p g]
    exact rfl
   ·rw [show decide (slN x y-8*l≤0)=true by simp;omega,show decide (slN x y≤8*l)=true by simp;omega]
    exact rfl
abbrev Aty:PureT:=Bj [cPt,cI] [cPt,cI] (fun _=>true) (fun x=>(((Ni x.1.1 x.1.2.1 x.2.1).1.1,(Ni x.1.1 x.1.2.1 x.2.1).1.2.1,()),(Ni x.1.1 x.1.2.1 x.2.1).2.1,()))
def plSl:List (Nat×PureT):=(231,At8)::plK
theorem puSl:D3 Tryz.prog plSl:=puOk_cons is_Root.plain B9x puK
theorem Baa:A6 Tryz.prog 194 Aty:=Bl (Ap Ak puSl (fns_cons is_Slow A0)) 7
 (fun x=>Ae5 x.1.1 x.1.2.1 x.2.1) (fun x=>by kernel_rfl) fun _ _ _=>Al7 _ _ _
end V
end Go.Proofs.YtlangijnealfjaaGreat
