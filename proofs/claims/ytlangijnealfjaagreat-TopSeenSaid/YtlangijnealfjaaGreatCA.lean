import Derived.Test.YtlangijnealfjaaGreatBA
namespace Go.Proofs.YtlangijnealfjaaGreat
open Go.RowKit
namespace V
namespace St
abbrev kPt:List SK:=[.d cI,.d cI]
def p0:SKTs kPt:=(0,0,())
abbrev TPe:=Tree (TCTs [cPt,cI])
def lfP (p:SKTs kPt) (e:Int):TPe:=.leaf ((p.1,p.2.1,()),e,())
end St
end V
end Go.Proofs.YtlangijnealfjaaGreat
namespace Go.Proofs.YtlangijnealfjaaGreat
open Go.RowKit
namespace V
def FLay.dfl (F:FLay):F.T:=(dflKs F.ks,Auo F.bs)
namespace St
abbrev kGm (f:Nat):List SK:=[.d .s,.d cI,.d cI,.d cI,.d (.sl Bg),.d cI,.d cI,.d cI,.d cI,.d cI,.d (.sl Dh),.d (.sl Bo),.d cI,.d cI,.d (.sl A1),.w 2 84 Bz,.o 4 .b,.d cI,.d cI,.d cI,.d cI,.f f [] [.p 1 0 0 0]]
abbrev bsG (f:Nat):List BK:=[(0,171,kGm f),(1,79,[.o 101 cKn])]
abbrev GM:Type:=SKTs (kGm 0)
abbrev Kns:Type:=List (TCT cKn)
abbrev Ao1:Type:=List (TCT Bz)
def gmM (m:GM):Ao1:=m.2.2.2.2.2.2.2.2.2.2.2.2.2.2.2.1
def gmO (m:GM):List Bool:=m.2.2.2.2.2.2.2.2.2.2.2.2.2.2.2.2.1
def gmU (m:GM) (ms:Ao1) (os:List Bool):GM:=(m.1,m.2.1,m.2.2.1,m.2.2.2.1,m.2.2.2.2.1,m.2.2.2.2.2.1,m.2.2.2.2.2.2.1,m.2.2.2.2.2.2.2.1,m.2.2.2.2.2.2.2.2.1,m.2.2.2.2.2.2.2.2.2.1,m.2.2.2.2.2.2.2.2.2.2.1,m.2.2.2.2.2.2.2.2.2.2.2.1,m.2.2.2.2.2.2.2.2.2.2.2.2.1,m.2.2.2.2.2.2.2.2.2.2.2.2.2.1,m.2.2.2.2.2.2.2.2.2.2.2.2.2.2.1,ms,os,m.2.2.2.2.2.2.2.2.2.2.2.2.2.2.2.2.2.1,m.2.2.2.2.2.2.2.2.2.2.2.2.2.2.2.2.2.2.1,m.2.2.2.2.2.2.2.2.2.2.2.2.2.2.2.2.2.2.2.1,m.2.2.2.2.2.2.2.2.2.2.2.2.2.2.2.2.2.2.2.2.1,m.2.2.2.2.2.2.2.2.2.2.2.2.2.2.2.2.2.2.2.2.2.1,())
abbrev GB:Type:=GM×SKTs [.o 0 cKn]×Unit
def gb (m:GM) (k:Kns):GB:=(m,(k,()),())
end St
end V
end Go.Proofs.YtlangijnealfjaaGreat
namespace Go.Proofs.YtlangijnealfjaaGreat
open Go.RowKit
namespace V
namespace St
def gk (x:GB):Kns:=x.2.1.1
end St
end V
end Go.Proofs.YtlangijnealfjaaGreat
namespace Go.Proofs.YtlangijnealfjaaGreat
open Go.RowKit
namespace V
namespace St
end St
end V
end Go.Proofs.YtlangijnealfjaaGreat
namespace Go.Proofs.YtlangijnealfjaaGreat
open Go.RowKit
namespace V
theorem By {P:Program} {f:Nat} {fn:Func} {loops:List ((Nat×Nat)×(St→Tree (XE×St)))} (h:Ah (bodyOf fn)=[]):∀ d ∈ Ah (bodyOf fn),∀ g,C4 loops f (keyOf d)=some g→Av P f d g:=by
 intro d hd
 rw [h] at hd
 cases hd
theorem Gv {P:Program} {loops:List ((Nat×Nat)×(St→Tree (XE×St)))}:∀ q ∈ ([]:List (Nat×Func)),∀ d ∈ Ah (bodyOf q.2),∀ g,C4 loops q.1 (keyOf d)=some g→Av P q.1 d g:=fun _ h=>nomatch h
theorem B5 {P:Program} {f:Nat} {fn:Func} {rest:List (Nat×Func)} {loops:List ((Nat×Nat)×(St→Tree (XE×St)))} (h:∀ d ∈ Ah (bodyOf fn),∀ g,C4 loops f (keyOf d)=some g→Av P f d g)
  (hr:∀ q ∈ rest,∀ d ∈ Ah (bodyOf q.2),∀ g,C4 loops q.1 (keyOf d)=some g→Av P q.1 d g):∀ q ∈ (f,fn)::rest,∀ d ∈ Ah (bodyOf q.2),∀ g,C4 loops q.1 (keyOf d)=some g→Av P q.1 d g:=by
 intro q hq
 rcases List.mem_cons.1 hq with rfl | hq
 ·exact h
 ·exact hr q hq
def Ar4 (P:Program) (f:Nat) (loops:List ((Nat×Nat)×(St→Tree (XE×St)))):List Code→Prop
 | []=>True
 | d::l=>(∀ g,C4 loops f (keyOf d)=some g→Av P f d g)∧Ar4 P f loops l
theorem A3b {P:Program} {f:Nat} {fn:Func} {loops:List ((Nat×Nat)×(St→Tree (XE×St)))} {ds:List Code} (h:Ah (bodyOf fn)=ds) (ha:Ar4 P f loops ds):∀ d ∈ Ah (bodyOf fn),∀ g,C4 loops f (keyOf d)=some g→Av P f d g:=by
 rw [h]
 clear h
 induction ds with
 | nil=>intro d hd;cases hd
 | cons a l ih =>
  intro d hd
  rcases List.mem_cons.1 hd with rfl | hd
  ·exact ha.1
  ·exact ih ha.2 d hd
theorem A0h {P:Program} {f:Nat} {d:Code} {loops:List ((Nat×Nat)×(St→Tree (XE×St)))} {k:Nat} {s:St→Tree (XE×St)} (hk:keyOf d=k) (ha:C4 loops f k=some s) (h:Av P f d s):∀ g,C4 loops f (keyOf d)=some g→Av P f d g:=by
 intro g hg
 rw [hk,ha] at hg
 cases hg
 exact h
theorem Atb {P:Program} {f:Nat} {d:Code} {loops:List ((Nat×Nat)×(St→Tree (XE×St)))} {k:Nat} (hk:keyOf d=k) (ha:C4 loops f k=none):∀ g,C4 loops f (keyOf d)=some g→Av P f d g:=by
 intro g hg
 rw [hk,ha] at hg
 cases hg
namespace St
abbrev S2:Type:=Ao1×List Bool×Kns
def kn (t s k b o:Int):TCT cKn:=(t,s,k,b,o,())
end St
end V
end Go.Proofs.YtlangijnealfjaaGreat
namespace Go.Proofs.YtlangijnealfjaaGreat
open Go.RowKit
namespace V
namespace St
def gs (x:GB):S2:=(gmM x.1,gmO x.1,gk x)
end St
end V
end Go.Proofs.YtlangijnealfjaaGreat
namespace Go.Proofs.YtlangijnealfjaaGreat
open Go.RowKit
namespace V
end V
end Go.Proofs.YtlangijnealfjaaGreat
namespace Go.Proofs.YtlangijnealfjaaGreat
open Go.RowKit
namespace V
namespace St
abbrev Prs:Type:=List (TCT A3e)
def Ai1 (P:Prs) (i:Nat):TCT A3e:=A7 P i (A5 A3e)
end St
end V
end Go.Proofs.YtlangijnealfjaaGreat
namespace Go.Proofs.YtlangijnealfjaaGreat
open Go.RowKit
namespace V
namespace St
end St
end V
end Go.Proofs.YtlangijnealfjaaGreat
namespace Go.Proofs.YtlangijnealfjaaGreat
open Go.RowKit
namespace V
namespace St
abbrev kBb:List SK:=[.d cI,.d cI]
def Azp (f:Nat):Lay:={ keys:=[0,2,3,13,14,15,24,25,26],ks:=[.p 0 0 0 0,.d cI,.p 2002 0 0 0,.d (.sl Bo),.d cI,.d cI,.d (.sl A1),.d cI,.d cI],bs:=[(0,171,kGm f),(1,79,[.o 101 cKn]),(2002,68,kBb)],n:=81,nx:=3000,marks:=[] }
def Azq (f:Nat):Lay:={ keys:=[0,13,14,15],ks:=[.p 0 0 0 0,.d (.sl Bo),.d cI,.d cI],bs:=bsG f,n:=81,nx:=3000,marks:=[] }
def Azr:Lay:={ keys:=[],ks:=[],bs:=[],n:=81,nx:=4000,marks:=[] }
def Azs (f:Nat):XE→Lay:=fun e=>match e with | .panic _=>Azr | _=>Azq f
abbrev Dss:Type:=List (TCT A1)
abbrev TB2 (f:Nat):=Tree ((Azp f).T⊕A4 (Azs f))
end St
end V
end Go.Proofs.YtlangijnealfjaaGreat
namespace Go.Proofs.YtlangijnealfjaaGreat
open Go.RowKit
namespace V
namespace St
end St
end V
end Go.Proofs.YtlangijnealfjaaGreat
namespace Go.Proofs.YtlangijnealfjaaGreat
open Go.RowKit
namespace V
namespace St
def x2 (x:GB) (s:S2):GB:=gb (gmU x.1 s.1 s.2.1) s.2.2
def z2:S2:=([],[],[])
structure CT where
 bl:List (TCT Bo)
 l:TCT Aq
 c:TCT Rs
 ps:Dss
 w:Int
 fl:Int
 t:Int
end St
end V
end Go.Proofs.YtlangijnealfjaaGreat
namespace Go.Proofs.YtlangijnealfjaaGreat
open Go.RowKit
namespace V
namespace St
end St
end V
end Go.Proofs.YtlangijnealfjaaGreat
namespace Go.Proofs.YtlangijnealfjaaGreat
open Go.RowKit
namespace V
namespace St
def ctS (g:TCT cGr) (s:TCT cSt):CT:=⟨Az g,g.1,g.2.2.1,Fc g.1,s.2.2.1,s.2.2.2.1,s.2.2.2.2.1⟩
end St
end V
end Go.Proofs.YtlangijnealfjaaGreat
namespace Go.Proofs.YtlangijnealfjaaGreat
open Go.RowKit
namespace V
namespace St
def ex2:Ao1:=[((50000,60106,()),(0,190000,()),(0,-12800,()),()),((80000,60000,()),(0,0,()),(0,0,()),())]
end St
end V
end Go.Proofs.YtlangijnealfjaaGreat
namespace Go.Proofs.YtlangijnealfjaaGreat
open Go.RowKit
namespace V
namespace St
end St
end V
end Go.Proofs.YtlangijnealfjaaGreat
