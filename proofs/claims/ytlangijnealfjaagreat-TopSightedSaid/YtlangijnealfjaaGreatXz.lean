import Derived.Test.YtlangijnealfjaaGreatXw
import Derived.Test.YtlangijnealfjaaGreatXc
namespace Go.Proofs.YtlangijnealfjaaGreat
open Go.RowKit
namespace V
namespace Tp
open St
theorem is_TopSighted:FnIs Tryz.prog (3,Tryz.f3):=⟨Tryz.func3,by kernel_rfl,by kernel_rfl⟩
abbrev Apq:TC:=.st [.i .u16,.i .u16]
abbrev cs_topSighted:List TC:=[Em,Em,Apq,.b]
abbrev Pa:Type:=TCT Ao→TCT cPt→TCT cPt→Int→List (TCT A1)→List Int×Int
abbrev Ahd (I:Pa):PureT:=B9 [Ao,cPt,cPt,cI,.sl A1] [.sl cI,cI] (fun x=>decide ((x.1.1.size:Int)≤Au .i64)) (fun x=>((I x.1 x.2.1 x.2.2.1 x.2.2.2.1 x.2.2.2.2.1).1,(I x.1 x.2.1 x.2.2.1 x.2.2.2.1 x.2.2.2.2.1).2,()))
def Gz:Pa:=fun l a b r o=>(Lp l a b r o,Gk l a b r o)
theorem Apr:A5 Tryz.prog 14 (Ahd Gz):=A6c
noncomputable def plSi (D:A33) (O:A39) (R:F6) (I:Pa):List (Nat×PureT):=(10,Ah4 D)::(11,Ahb O)::(12,A61 R)::(14,Ahd I)::(13,Qh)::(9,A3s)::[]
def fzB (id:Nat) (s:St):St:={ s with tm:=fun t=>fzA s.hp (match s.hp id with | some (.blk b)=>b.cs.flatMap W3 | _=>[]) (s.tm t),hp:=fzH s.hp (match s.hp id with | some (.blk b)=>b.cs.flatMap W3 | _=>[]) }
theorem A65 {P:Program} {fn:FuncId} {c:Code} {f:St→Tree (XE×St)} (id:Nat) (h:As P fn c f):As P fn c (fun s=>f (fzB id s)):=fun w0 _ s a w R hS hf =>
 Dj (h w0 _ (fzB id s) a w R (hS.fz _) hf) fun _ _ _ ⟨τ,x,s',h1,h2⟩=>⟨τ,x,s',(Ol hS.h _).trans h1,h2⟩
end Tp
end V
end Go.Proofs.YtlangijnealfjaaGreat
namespace Go.Proofs.YtlangijnealfjaaGreat
open Go.RowKit
namespace V
namespace Tp
open St
noncomputable def Ahe:Code:=(Ai (bodyOf Tryz.f3)).getD 0 .skip
def Ur:Lay:={ keys:=[9,12,16,17,19,21],ks:=[.p 6 0 0 0,.d (.sl c2),.d cI,.d (.sl cPt),.d (.sl cPt),.d cI],bs:=[(6,33,kLw)],n:=167,nx:=1000,marks:=[] }
def Aut:Lay:={ keys:=[],ks:=[],bs:=[],n:=167,nx:=1000,marks:=[] }
def Aso:Lay:={ keys:=[8],ks:=[.d .b],bs:=[],n:=167,nx:=1000,marks:=[] }
def A3a:XE→Lay:=fun e=>match e with | .ret=>Aso | _=>Aut
abbrev cSi:=Ur.T⊕A4 A3a
structure QSi where
 w:SKTs kLw
 ls:List (TCT c2)
 f:Int
 x:List (TCT cPt)
 y:List (TCT cPt)
noncomputable def Wx (q:QSi) (n:Int):Ur.T:=(((),q.ls,q.f,q.x,q.y,n,()),(q.w,()))
def A8u:A4 A3a:=⟨.exit 0,((),())⟩
def Wy (b:Bool):A4 A3a:=⟨.ret,((b,()),())⟩
noncomputable def Ahf (q:QSi) (n:Int) (r:List Int×Int):Tree cSi :=
 bif r.2 != 0 then .leaf (.inr (Wy false)) else bif (r.1.length:Int)==0 then bif q.f==19 then .leaf (.inr (Wy false)) else .leaf (.inl (Wx q (W64 (n+1)))) else .leaf (.inl (Wx q (W64 (n+1))))
noncomputable def A8v (I:Pa) (q:QSi) (n:Int) (p:TCT c2):Tree cSi :=
 bif decide (p.1<0) then .leaf (.inr (Wy false)) else bif decide (p.1≥(q.x.length:Int)) then .leaf (.inr (Wy false)) else bif decide (p.2.1<0) then .leaf (.inr (Wy false)) else bif decide (p.2.1≥(q.y.length:Int)) then .leaf (.inr (Wy false)) else
 inN q.x.length p.1 (inN q.y.length p.2.1 (bif decide (((Fo q.w).1.size:Int)≤Au .i64) then Ahf q n (I (Fo q.w) (Ar q.x (Int.toNat p.1) (Ap cPt)) (Ar q.y (Int.toNat p.2.1) (Ap cPt)) 1 []) else .fail))
noncomputable def A3b (I:Pa) (q:QSi) (n:Int):Tree cSi:=bif decide (n<(q.ls.length:Int)) then inN q.ls.length n (inN q.ls.length n (A8v I q n (Ar q.ls (Int.toNat n) (Ap c2)))) else .leaf (.inr A8u)
def qsi (g:Ur.T):QSi:=⟨g.2.1,g.1.2.1,g.1.2.2.1,g.1.2.2.2.1,g.1.2.2.2.2.1⟩
noncomputable def Wz (I:Pa) (g:Ur.T):Tree cSi:=A3b I (qsi g) g.1.2.2.2.2.2.1
def Ahg (g:Ur.T):Nat:=(g.1.2.1:List (TCT c2)).length+1
noncomputable def A8w (D:A33) (O:A39) (R:F6) (I:Pa):Ctx:=ctx Tryz.prog (plSi D O R I) []
theorem Auu (D:A33) (O:A39) (R:F6) (I:Pa) (g:Ur.T):evC Tryz.prog (D7 (A8w D O R I) 6) (A8w D O R I).pures 3 (A8w D O R I).u (fun _=>none) Ahe (Ur.of g) (Fh Ur A3a)=Wz I g:=by kernel_rfl
end Tp
end V
end Go.Proofs.YtlangijnealfjaaGreat
namespace Go.Proofs.YtlangijnealfjaaGreat
open Go.RowKit
namespace V
namespace Tp
open St
def Aps:Tree Unit:=.leaf ()
def En (t:Bool):TCT Ao:=(nameG,100000,200000,5000,Db [((50000,40000,6000,500,false,()):TCT B6),(30000,100000,6200,500,true,())] 0 (50000,40000,6000,500,t,()),((50000,100000,()),1200,()),1,1,[((100,0,0,()):TCT D1)],())
def A3c (m:Int) (d:TCT Em) (r:Int):TCT A1:=(((spt d).1,(spt d).2.1,()),W64 (1+Int.tmod (W64 r) m),())
noncomputable def Auv (y:Option (A4 A3a)):Tree Unit:=bif isE .ret y then (bif (Dd .ret y).1.1 then Aps else .fail) else bif isE (.exit 0) y then Aps else .fail
noncomputable def A8x (I:Pa) (t:Bool) (f:Int) (ls:List (TCT c2)) (x y:List (TCT cPt)):Tree Unit:=Auv (iter (Wz I) (ls.length+1) (Wx ⟨C3 (En t),ls,f,x,y⟩ 0))
noncomputable def Ahh (I:Pa) (t:Bool) (D:List (TCT c2)×Int) (f:Int) (ra rb:List (TCT cPt)×Int):Tree Unit :=
 bif D.2 != 0 then bif D.2==2 then bif f==D.2 then Aps else .fail else .fail else bif ra.2 != 0 then .fail else bif rb.2 != 0 then .fail else bif (ra.1.length:Int)!=16 then .fail else bif (rb.1.length:Int)!=16 then .fail else
 bif f != 0 then bif f != 19 then .fail else A8x I t f D.1 ra.1 rb.1 else A8x I t f D.1 ra.1 rb.1
noncomputable def Alt (D:A33) (O:A39) (R:F6) (I:Pa) (d t:TCT Em) (r:TCT Apq) (b:Bool):Tree Unit :=
 Ahh I b (D (A3c 4000 d r.1) (A3c 4000 t r.2.1)) (O (En b) (A3c 4000 d r.1) (A3c 4000 t r.2.1)).2.2 (R (A3c 4000 d r.1)) (R (A3c 4000 t r.2.1))
end Tp
open Tp
noncomputable def Lo (D:A33) (O:A39) (R:F6) (I:Pa):Ctx:=Fu Tryz.prog (plSi D O R I) [(3,Tryz.f3),(8,Tryz.f8)] [((3,14),fun s=>Aq Ur A3a (Da [.ret,.exit 0] (Wz I) Ahg) (fzB 6 s))]
theorem Alu (D:A33) (O:A39) (R:F6) (I:Pa) (y:TCTs cs_topSighted):D7 (Lo D O R I) 7 (.fn 3) (D5 cs_topSighted y) Bz 0 A5m=Alt D O R I y.1 y.2.1 y.2.2.1 y.2.2.2.1:=by kernel_rfl
end V
end Go.Proofs.YtlangijnealfjaaGreat
