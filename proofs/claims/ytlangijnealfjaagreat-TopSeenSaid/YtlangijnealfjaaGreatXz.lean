import Derived.Test.YtlangijnealfjaaGreatXw
import Derived.Test.YtlangijnealfjaaGreatXc
namespace Go.Proofs.YtlangijnealfjaaGreat
open Go.RowKit
namespace V
namespace Tp
open St
theorem is_TopSighted:FnIs Tryz.prog (3,Tryz.f3):=⟨Tryz.func3,by kernel_rfl,by kernel_rfl⟩
abbrev A8r:TC:=.st [.i .u16,.i .u16]
abbrev Ia:List TC:=[Dm,Dm,A8r,.b]
abbrev Qd:Type:=TCT Aq→TCT cPt→TCT cPt→Int→List (TCT A1)→List Int×Int
abbrev Akn (I:Qd):PureT:=Bh [Aq,cPt,cPt,cI,.sl A1] [.sl cI,cI] (fun x=>decide ((x.1.1.size:Int)≤Aw .i64)) (fun x=>((I x.1 x.2.1 x.2.2.1 x.2.2.2.1 x.2.2.2.2.1).1,(I x.1 x.2.1 x.2.2.1 x.2.2.2.1 x.2.2.2.2.1).2,()))
def Hi:Qd:=fun l a b r o=>(Mh l a b r o,H5 l a b r o)
theorem Aun:A6 Tryz.prog 14 (Akn Hi):=A96
noncomputable def plSi (D:A5h) (O:L9) (R:Dg) (I:Qd):List (Nat×PureT):=(10,Ake D)::(11,A8q O)::(12,A1j R)::(14,Akn I)::(13,Iz)::(9,Zx)::[]
def fzB (id:Nat) (s:St):St:={ s with tm:=fun t=>fzA s.hp (match s.hp id with | some (.blk b)=>b.cs.flatMap Y7 | _=>[]) (s.tm t),hp:=fzH s.hp (match s.hp id with | some (.blk b)=>b.cs.flatMap Y7 | _=>[]) }
theorem W2 {P:Program} {fn:FuncId} {c:Code} {f:St→Tree (XE×St)} (id:Nat) (h:Av P fn c f):Av P fn c (fun s=>f (fzB id s)):=fun w0 _ s a w R hS hf =>
 Dx (h w0 _ (fzB id s) a w R (hS.fz _) hf) fun _ _ _ ⟨τ,x,s',h1,h2⟩=>⟨τ,x,s',(Pt hS.h _).trans h1,h2⟩
end Tp
end V
end Go.Proofs.YtlangijnealfjaaGreat
namespace Go.Proofs.YtlangijnealfjaaGreat
open Go.RowKit
namespace V
namespace Tp
open St
noncomputable def Ako:Code:=(Ah (bodyOf Tryz.f3)).getD 0 .skip
def W3:Lay:={ keys:=[9,12,16,17,19,21],ks:=[.p 6 0 0 0,.d (.sl c2),.d cI,.d (.sl cPt),.d (.sl cPt),.d cI],bs:=[(6,33,kLw)],n:=167,nx:=1000,marks:=[] }
def B0e:Lay:={ keys:=[],ks:=[],bs:=[],n:=167,nx:=1000,marks:=[] }
def Axx:Lay:={ keys:=[8],ks:=[.d .b],bs:=[],n:=167,nx:=1000,marks:=[] }
def A5m:XE→Lay:=fun e=>match e with | .ret=>Axx | _=>B0e
abbrev cSi:=W3.T⊕A4 A5m
structure QSi where
 w:SKTs kLw
 ls:List (TCT c2)
 f:Int
 x:List (TCT cPt)
 y:List (TCT cPt)
noncomputable def Z1 (q:QSi) (n:Int):W3.T:=(((),q.ls,q.f,q.x,q.y,n,()),(q.w,()))
def Abl:A4 A5m:=⟨.exit 0,((),())⟩
def Z2 (b:Bool):A4 A5m:=⟨.ret,((b,()),())⟩
noncomputable def Akp (q:QSi) (n:Int) (r:List Int×Int):Tree cSi :=
 bif r.2 != 0 then .leaf (.inr (Z2 false)) else bif (r.1.length:Int)==0 then bif q.f==19 then .leaf (.inr (Z2 false)) else .leaf (.inl (Z1 q (W64 (n+1)))) else .leaf (.inl (Z1 q (W64 (n+1))))
noncomputable def Abm (I:Qd) (q:QSi) (n:Int) (p:TCT c2):Tree cSi :=
 bif decide (p.1<0) then .leaf (.inr (Z2 false)) else bif decide (p.1≥(q.x.length:Int)) then .leaf (.inr (Z2 false)) else bif decide (p.2.1<0) then .leaf (.inr (Z2 false)) else bif decide (p.2.1≥(q.y.length:Int)) then .leaf (.inr (Z2 false)) else
 inN q.x.length p.1 (inN q.y.length p.2.1 (bif decide (((Ey q.w).1.size:Int)≤Aw .i64) then Akp q n (I (Ey q.w) (A7 q.x (Int.toNat p.1) (A5 cPt)) (A7 q.y (Int.toNat p.2.1) (A5 cPt)) 1 []) else .fail))
noncomputable def A5n (I:Qd) (q:QSi) (n:Int):Tree cSi:=bif decide (n<(q.ls.length:Int)) then inN q.ls.length n (inN q.ls.length n (Abm I q n (A7 q.ls (Int.toNat n) (A5 c2)))) else .leaf (.inr Abl)
def qsi (g:W3.T):QSi:=⟨g.2.1,g.1.2.1,g.1.2.2.1,g.1.2.2.2.1,g.1.2.2.2.2.1⟩
noncomputable def Z3 (I:Qd) (g:W3.T):Tree cSi:=A5n I (qsi g) g.1.2.2.2.2.2.1
def Akq (g:W3.T):Nat:=(g.1.2.1:List (TCT c2)).length+1
noncomputable def Abn (D:A5h) (O:L9) (R:Dg) (I:Qd):Ctx:=ctx Tryz.prog (plSi D O R I) []
theorem B0f (D:A5h) (O:L9) (R:Dg) (I:Qd) (g:W3.T):evC Tryz.prog (Ck (Abn D O R I) 6) (Abn D O R I).pures 3 (Abn D O R I).u (fun _=>none) Ako (W3.of g) (E4 W3 A5m)=Z3 I g:=by kernel_rfl
end Tp
end V
end Go.Proofs.YtlangijnealfjaaGreat
namespace Go.Proofs.YtlangijnealfjaaGreat
open Go.RowKit
namespace V
namespace Tp
open St
def X3:Tree Unit:=.leaf ()
def Cf (t:Bool):TCT Aq:=(nameG,100000,200000,5000,Dn [((50000,40000,6000,500,false,()):TCT Bg),(30000,100000,6200,500,true,())] 0 (50000,40000,6000,500,t,()),((50000,100000,()),1200,()),1,1,[((100,0,0,()):TCT Dh)],())
def Ox (m:Int) (d:TCT Dm) (r:Int):TCT A1:=(((spt d).1,(spt d).2.1,()),W64 (1+Int.tmod (W64 r) m),())
noncomputable def B0g (y:Option (A4 A5m)):Tree Unit:=bif isE .ret y then (bif (D4 .ret y).1.1 then X3 else .fail) else bif isE (.exit 0) y then X3 else .fail
noncomputable def Abo (I:Qd) (t:Bool) (f:Int) (ls:List (TCT c2)) (x y:List (TCT cPt)):Tree Unit:=B0g (iter (Z3 I) (ls.length+1) (Z1 ⟨C0 (Cf t),ls,f,x,y⟩ 0))
noncomputable def Akr (I:Qd) (t:Bool) (D:List (TCT c2)×Int) (f:Int) (ra rb:List (TCT cPt)×Int):Tree Unit :=
 bif D.2 != 0 then bif D.2==2 then bif f==D.2 then X3 else .fail else .fail else bif ra.2 != 0 then .fail else bif rb.2 != 0 then .fail else bif (ra.1.length:Int)!=16 then .fail else bif (rb.1.length:Int)!=16 then .fail else
 bif f != 0 then bif f != 19 then .fail else Abo I t f D.1 ra.1 rb.1 else Abo I t f D.1 ra.1 rb.1
noncomputable def Aq2 (D:A5h) (O:L9) (R:Dg) (I:Qd) (d t:TCT Dm) (r:TCT A8r) (b:Bool):Tree Unit :=
 Akr I b (D (Ox 4000 d r.1) (Ox 4000 t r.2.1)) (O (Cf b) (Ox 4000 d r.1) (Ox 4000 t r.2.1)).2.2 (R (Ox 4000 d r.1)) (R (Ox 4000 t r.2.1))
end Tp
open Tp
noncomputable def Mf (D:A5h) (O:L9) (R:Dg) (I:Qd):Ctx:=F8 Tryz.prog (plSi D O R I) [(3,Tryz.f3),(8,Tryz.f8)] [((3,14),fun s=>Au W3 A5m (D5 [.ret,.exit 0] (Z3 I) Akq) (fzB 6 s))]
theorem Aq3 (D:A5h) (O:L9) (R:Dg) (I:Qd) (y:TCTs Ia):Ck (Mf D O R I) 7 (.fn 3) (Cs Ia y) Bs 0 A4r=Aq2 D O R I y.1 y.2.1 y.2.2.1 y.2.2.2.1:=by kernel_rfl
end V
end Go.Proofs.YtlangijnealfjaaGreat
