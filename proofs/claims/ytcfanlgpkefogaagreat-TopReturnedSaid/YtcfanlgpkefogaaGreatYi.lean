import Derived.Test.YtcfanlgpkefogaaGreatYf
import Derived.Test.YtcfanlgpkefogaaGreatKa
import Derived.Test.YtcfanlgpkefogaaGreatDw
namespace Go.Proofs.YtcfanlgpkefogaaGreat
open Go.RowKit
namespace V
namespace Tp
open St
theorem is_TopReturned:FnIs Tryz.prog (8,Tryz.f8):=⟨Tryz.func8,by kernel_rfl,by kernel_rfl⟩
abbrev cs_topReturned:List TC:=[.sl D6,Ku,.i .u8]
abbrev Ah0:Type:=TCT cGr→TCT cSt→Int→TkR
abbrev Sl:Type:=TCT A5→TCT cPt→TCTs [cPt,.b,cI]
abbrev Qm:Type:=TCT A5→TCT cPt→Int→List (TCT A2)→TCT cPt×Int
abbrev Qn:Type:=TCT A5→TCT cPt→Int×Int
abbrev Qo:Type:=TCT A5→TCT cPt→Bool×Int
abbrev Pl:Type:=TCT A5→TCT cPt→Int→List (TCT A2)→List Int×Int
abbrev Xp:Type:=TCT cGr→List (TCT cPt)→TCT cSt×Int
abbrev Aou (l:TCT A5):Bool:=decide ((l.1.size:Int)≤Bl .i64)
abbrev Bdm (P:Ah0):PureT:=Bv [cGr,cSt,cI] [cSt,.sl cKn,cI] (fun x=>Adc x.1) (fun x=>Zy (P x.1 x.2.1 x.2.2.1))
abbrev B8g (S:Sl):PureT:=Bv [A5,cPt] [cPt,.b,cI] (fun x=>Aou x.1) (fun x=>B8d (S x.1 x.2.1))
abbrev Ayn (P:Qm):PureT:=Bv [A5,cPt,cI,.sl A2] [cPt,cI] (fun x=>A50 x.1) (fun x=>(((P x.1 x.2.1 x.2.2.1 x.2.2.2.1).1.1,(P x.1 x.2.1 x.2.2.1 x.2.2.2.1).1.2.1,()),(P x.1 x.2.1 x.2.2.1 x.2.2.2.1).2,()))
abbrev B8h (N:Qn):PureT:=Bv [A5,cPt] [cI,cI] (fun x=>Aou x.1) (fun x=>((N x.1 x.2.1).1,(N x.1 x.2.1).2,()))
abbrev B8i (O:Qo):PureT:=Bv [A5,cPt] [.b,cI] (fun x=>Aou x.1) (fun x=>((O x.1 x.2.1).1,(O x.1 x.2.1).2,()))
abbrev B8j (T:Pl):PureT:=Up [A5,cPt,cI,.sl A2] [.sl cI,cI] (fun x=>Aou x.1) (fun x=>((T x.1 x.2.1 x.2.2.1 x.2.2.2.1).1,(T x.1 x.2.1 x.2.2.1 x.2.2.2.1).2,()))
abbrev Ayo (L:Xp):PureT:=Bv [cGr,.sl cPt] [cSt,cI] (fun x=>Adc x.1) (fun x=>(St.etaS (L x.1 x.2.1).1,(L x.1 x.2.1).2,()))
def puV7:Qm:=fun l p r o=>(putV l p r o,putE l p r o)
def Jr:Qn:=fun l p=>(nuV l p,nuE l p)
def Js:Qo:=fun l p=>(onV l p,Gc l p)
def Ie:Pl:=fun l p r o=>(Rb l p p r o,Ke l p p r o)
def Wg:Xp:=fun g p=>((G3 g p).1,(G3 g p).2.1)
theorem Bdn:A7 Tryz.prog 34 (Ayn puV7):=Bio
theorem Bip:A7 Tryz.prog 35 (B8h Jr):=Bdi
theorem Biq:A7 Tryz.prog 36 (B8i Js):=Bic
theorem Bir:A7 Tryz.prog 37 (B8j Ie):=Agw
theorem Bdo:A7 Tryz.prog 28 (Ayo Wg):=B7a
theorem Bis:A7 Tryz.prog 33 (B8g spV):=B63
noncomputable def plRe0 (S:Sl) (P:Qm) (N:Qn) (O:Qo) (T:Pl):List (Nat×PureT):=(33,B8g S)::(34,Ayn P)::(35,B8h N)::(36,B8i O)::(37,B8j T)::[]
theorem puRe0:Db Tryz.prog (plRe0 spV puV7 Jr Js Ie):=puOk_cons is_SpotL.plain Bis (puOk_cons is_put.plain Bdn (puOk_cons is_NumL.plain Bip (puOk_cons is_OnL.plain Biq (puOk_cons is_Touched.plain Bir puOk_nil))))
noncomputable def plRe (G:FGn) (S0:FSs) (B:FBb) (W:FBl) (F:FSk) (P0:Ah0) (L:Xp) (S:Sl) (P:Qm) (N:Qn) (O:Qo) (T:Pl):List (Nat×PureT):=(10,Add G S0 B)::(12,Ade W)::(11,B6q F)::(21,Bdm P0)::(28,Ayo L)::(9,Sr)::plRe0 S P N O T
theorem puRe:Db Tryz.prog (plRe Gr Hw If Fx skV PlayV Wg spV puV7 Jr Js Ie):=puOk_cons is_set.plain Aq0 (puOk_cons is_blow.plain Aq1 (puOk_cons is_sStrike.plain A3x (puOk_cons is_sPlay.plain B34 (puOk_cons is_sLie.plain Bdo (puOk_cons is_works05.plain Pp puRe0)))))
noncomputable def A7r:Code:=(As (bodyOf Tryz.f8)).getD 0 .skip
noncomputable def A2e:Code:=(As (bodyOf Tryz.f8)).getD 1 .skip
end Tp
end V
end Go.Proofs.YtcfanlgpkefogaaGreat
namespace Go.Proofs.YtcfanlgpkefogaaGreat
open Go.RowKit
namespace V
namespace Tp
open St
abbrev Bdp:List BK:=[(1,41,kGr),(16,45,kSt)]
def A2f:Lay:={ keys:=[0,7,13,15,16,17],ks:=[.d (.sl D6),.p 1 0 0 0,.p 16 0 0 0,.o 33 A2,.o 31 cPt,.d cI],bs:=Bdp,n:=291,nx:=1000,marks:=[] }
def Bit:Lay:={ keys:=[0,7,13,15,16],ks:=[.d (.sl D6),.p 1 0 0 0,.p 16 0 0 0,.o 33 A2,.o 31 cPt],bs:=Bdp,n:=291,nx:=1000,marks:=[] }
def A51:XE→Lay:=fun _=>Bit
def Pm:Lay:={ keys:=[0,7,13,15,16,18],ks:=[.d (.sl D6),.p 1 0 0 0,.p 16 0 0 0,.o 33 A2,.o 31 cPt,.d cI],bs:=Bdp,n:=291,nx:=3000,marks:=[] }
def Biu:Lay:={ keys:=[0,7,16],ks:=[.d (.sl D6),.p 1 0 0 0,.o 31 cPt],bs:=[(1,41,kGr)],n:=291,nx:=3000,marks:=[] }
def Bdq:Lay:={ keys:=[6],ks:=[.d .b],bs:=[],n:=291,nx:=3000,marks:=[] }
def Uu:XE→Lay:=fun e=>match e with | .ret=>Bdq | _=>Biu
structure QRe where
 l:List (TCT D6)
 g:SKTs kGr
 u:SKTs kSt
def M5 (q:QRe) (os:List (TCT A2)) (ps:List (TCT cPt)) (i:Int):A2f.T:=((q.l,(),(),os,ps,i,()),(q.g,q.u,()))
def Ah1 (q:QRe) (os:List (TCT A2)) (ps:List (TCT cPt)):A1 A51:=⟨.exit 0,((q.l,(),(),os,ps,()),(q.g,q.u,()))⟩
abbrev Biv:=Tree (A2f.T⊕A1 A51)
def Bdr (q:QRe) (i:Int):Bool:=Bc q.u.2.1 (Int.toNat i) (B7 .b)
def atQ (q:QRe) (i:Int):TCT cPt:=(Bc q.u.1 (Int.toNat i) (B7 Bd)).1
def dcR (p:TCT cPt):TCT A2:=(p,2946,())
def A2g (q:QRe) (os:List (TCT A2)) (ps:List (TCT cPt)) (i:Int):Biv:=bif decide (i<(q.l.length:Int)) then inN q.u.2.1.length i (bif !Bdr q i then inN q.u.1.length i (bif E8 os [dcR (atQ q i)] 24 then inN q.u.1.length i (bif E8 ps [atQ q i] 16 then .leaf (.inl (M5 q (os++[dcR (atQ q i)]) (ps++[atQ q i]) (W64 (i+1)))) else .fail) else .fail) else .leaf (.inl (M5 q os ps (W64 (i+1))))) else .leaf (.inr (Ah1 q os ps))
def Nv (x:A2f.T):Biv:=A2g ⟨x.1.1,x.2.1,x.2.2.1⟩ x.1.2.2.2.1 x.1.2.2.2.2.1 x.1.2.2.2.2.2.1
def Ah2 (x:A2f.T):Nat:=(x.1.1:List (TCT D6)).length+1
noncomputable def Biw:Ctx:=ctx Tryz.prog [] []
theorem Ayp:CtxOk Biw:=B5 Aw puOk_nil A0
theorem Bix:Bb Tryz.prog 8 A7r (B8 A2f A51 (Dy [.exit 0] Nv Ah2)):=Br Ayp 7 _ A2f A51 (fun _=>Nat.le_refl _) [.exit 0] Nv Ah2 (fun g=>by kernel_rfl)
def Kt (q:QRe) (os:List (TCT A2)) (ps:List (TCT cPt)) (i:Int):Pm.T:=((q.l,(),(),os,ps,i,()),(q.g,q.u,()))
def Ah3 (q:QRe) (ps:List (TCT cPt)):A1 Uu:=⟨.exit 2,((q.l,(),ps,()),(q.g,()))⟩
def Bds:A1 Uu:=⟨.ret,((false,()),())⟩
abbrev A2h:=Tree (Pm.T⊕A1 Uu)
def no1:A2h:=.leaf (.inr Bds)
def ptE (p:TCT cPt):TCT cPt:=(p.1,p.2.1,())
def Ah4 (q:QRe) (os:List (TCT A2)) (ps:List (TCT cPt)) (i:Int) (p:TCT cPt):A2h:=bif E8 os [dcR p] 24 then bif E8 ps [p] 16 then .leaf (.inl (Kt q (os++[dcR p]) (ps++[p]) (W64 (i+1)))) else .fail else .fail
def Ra (l:List Int):Int:=Bc l (Int.toNat (W64 ((l.length:Int)-1))) (B7 cI)
def atS (p:TCT cPt) (s:TCT cPt):Bool:=p.1==s.1&&(p.2.1==s.2.1&&true)
def A2i (p s:TCT cPt) (f:List Int) (k:A2h):A2h:=bif !atS p s then bif (f.length:Int)==0 then no1 else inN f.length (W64 ((f.length:Int)-1)) (bif decide (Ra f<5) then no1 else k) else k
def Ayq (q:QRe) (os:List (TCT A2)) (ps:List (TCT cPt)) (i:Int) (p:TCT cPt) (s:TCTs [cPt,.b,cI]) (t f:List Int×Int):A2h:=bif t.2 != 0 then no1 else bif f.2 != 0 then no1 else bif decide ((t.1.length:Int)>0) then inN t.1.length (W64 ((t.1.length:Int)-1)) (bif decide (Ra t.1≥5) then no1 else A2i p s.1 f.1 (Ah4 q os ps i (ptE p))) else A2i p s.1 f.1 (Ah4 q os ps i (ptE p))
def sz7 {β:Type} (l:TCT A5) (k:Tree β):Tree β:=bif Aou l then k else .fail
def Ayr (T:Pl) (w:TCT A5) (q:QRe) (os:List (TCT A2)) (ps:List (TCT cPt)) (i:Int) (s:TCTs [cPt,.b,cI]) (pu:TCT cPt×Int) (n:Int×Int) (o:Bool×Int):A2h:=bif s.2.2.1 != 0 then no1 else bif pu.2 != 0 then no1 else bif n.2 != 0 then no1 else bif o.2 != 0 then no1 else bif !s.2.1 then no1 else bif !o.1 then no1 else
 sz7 w (sz7 w (Ayq q os ps i pu.1 s (T w (ptE pu.1) 2946 os) (T w (ptE s.1) 2946 os)))
def B8k (S:Sl) (P:Qm) (N:Qn) (O:Qo) (T:Pl) (w:TCT A5) (q:QRe) (os:List (TCT A2)) (ps:List (TCT cPt)) (i:Int):A2h:=Ayr T w q os ps i (S w (atQ q i)) (P w (atQ q i) 2946 os) (N w (ptE (P w (atQ q i) 2946 os).1)) (O w (ptE (P w (atQ q i) 2946 os).1))
def Sm (S:Sl) (P:Qm) (N:Qn) (O:Qo) (T:Pl) (q:QRe) (os:List (TCT A2)) (ps:List (TCT cPt)) (i:Int):A2h:=bif decide (i<(q.l.length:Int)) then inN q.u.2.1.length i (bif !Bdr q i then .leaf (.inl (Kt q os ps (W64 (i+1)))) else
 inN q.u.1.length i (sz7 (lwG q.g) (inN q.u.1.length i (inN q.u.1.length i (bif A50 (lwG q.g) then sz7 (lwG q.g) (sz7 (lwG q.g) (B8k S P N O T (lwG q.g) q os ps i)) else .fail))))) else .leaf (.inr (Ah3 q ps))
def Nw (S:Sl) (P:Qm) (N:Qn) (O:Qo) (T:Pl) (x:Pm.T):A2h:=Sm S P N O T ⟨x.1.1,x.2.1,x.2.2.1⟩ x.1.2.2.2.1 x.1.2.2.2.2.1 x.1.2.2.2.2.2.1
def Ah5 (x:Pm.T):Nat:=(x.1.1:List (TCT D6)).length+1
noncomputable def Ali (S:Sl) (P:Qm) (N:Qn) (O:Qo) (T:Pl):Ctx:=ctx Tryz.prog (plRe0 S P N O T) []
theorem Ays:CtxOk (Ali spV puV7 Jr Js Ie):=B5 Aw puRe0 A0
theorem Biy (S:Sl) (P:Qm) (N:Qn) (O:Qo) (T:Pl) (g:Pm.T):evC Tryz.prog (Dx (Ali S P N O T) 7) (Ali S P N O T).pures 8 (Ali S P N O T).u (fun _=>none) A2e (Pm.of g) (Gl Pm Uu)=Nw S P N O T g:=by kernel_rfl
theorem Biz:Bb Tryz.prog 8 A2e (B8 Pm Uu (Dy [.ret,.exit 2] (Nw spV puV7 Jr Js Ie) Ah5)):=Br Ays 7 _ Pm Uu (fun e=>by cases e <;> exact Nat.le_refl _) [.ret,.exit 2] (Nw spV puV7 Jr Js Ie) Ah5 (Biy spV puV7 Jr Js Ie)
theorem B64:keyOf A7r=15:=by kernel_rfl
theorem B65:keyOf A2e=21:=by kernel_rfl
theorem Ayt:As (bodyOf Tryz.f8)=[A7r,A2e]:=by kernel_rfl
end Tp
end V
end Go.Proofs.YtcfanlgpkefogaaGreat
namespace Go.Proofs.YtcfanlgpkefogaaGreat
open Go.RowKit
namespace V
namespace Tp
open St
def Ayu (L:Xp) (l:List (TCT D6)) (g:SKTs kGr) (ps:List (TCT cPt)):Tree Unit:=bif Adc (A2s g) then bif (L (A2s g) ps).2==0 then bif ((msT (L (A2s g) ps).1).length:Int)==(l.length:Int) then Rf else .fail else .fail else .fail
def B8l (L:Xp) (y:Option (A1 Uu)):Tree Unit:=bif isE .ret y then (bif (D4 .ret y).1.1 then Rf else .fail) else bif isE (.exit 2) y then Ayu L (D4 (.exit 2) y).1.1 (D4 (.exit 2) y).2.1 (D4 (.exit 2) y).1.2.2.1 else .fail
def Ayv (L:Xp) (S:Sl) (P:Qm) (N:Qn) (O:Qo) (T:Pl) (y:Option (A1 A51)):Tree Unit:=bif isE (.exit 0) y then B8l L (iter (Nw S P N O T) ((D4 (.exit 0) y).1.1.length+1) (Kt ⟨(D4 (.exit 0) y).1.1,(D4 (.exit 0) y).2.1,(D4 (.exit 0) y).2.2.1⟩ (D4 (.exit 0) y).1.2.2.2.1 (D4 (.exit 0) y).1.2.2.2.2.1 0)) else .fail
def er_re (e:Int):Tree Unit:=bif e==4 then Rf else bif e==6 then Rf else .fail
def Ayw (L:Xp) (S:Sl) (P:Qm) (N:Qn) (O:Qo) (T:Pl) (l:List (TCT D6)) (g:TCT cGr) (r:TkR):Tree Unit:=bif r.2.2.1 != 0 then er_re r.2.2.1 else bif ((msT r.1).length:Int)!=(l.length:Int) then er_re r.2.2.1 else bif ((osT r.1).length:Int)!=(l.length:Int) then er_re r.2.2.1 else
 Ayv L S P N O T (iter Nv (l.length+1) (M5 ⟨l,E5 g,N2 r.1⟩ [] [] 0))
def B8m (P0:Ah0) (L:Xp) (S:Sl) (P:Qm) (N:Qn) (O:Qo) (T:Pl) (l:List (TCT D6)) (tk:Int) (g:TCT cGr) (r:TkR):Tree Unit:=bif r.2.2.1 != 0 then bif r.2.2.1==4 then Rf else .fail else szT g.1 (Ayw L S P N O T l g (P0 g (St.etaS r.1) (Int.tmod (W64 tk) 61)))
def Ayx (F:FSk) (P0:Ah0) (L:Xp) (S:Sl) (P:Qm) (N:Qn) (O:Qo) (T:Pl) (l:List (TCT D6)) (tk:Int) (g:TCT cGr) (s:TCT cSt) (b:Bool) (w:TCT cBl):Tree Unit:=bif !b then Rf else szT g.1 (B8m P0 L S P N O T l tk g (F g s w))
def B66 (G:FGn) (S0:FSs) (B:FBb) (W:FBl) (F:FSk) (P0:Ah0) (L:Xp) (S:Sl) (P:Qm) (N:Qn) (O:Qo) (T:Pl) (l:List (TCT D6)) (w:TCT Ku) (tk:Int):Tree Unit :=
 bif (l.length:Int)==0 then Rf else bif decide ((l.length:Int)>4) then Rf else bif decide (l.length≤1000) then Ayx F P0 L S P N O T l tk (Apy (G 500 0 (700,0,()) l)) (St.etaS (S0 500 0 (700,0,()) l)) (B 500 0 (700,0,()) l) (Apz (W w 0)) else .fail
end Tp
open Tp
noncomputable def Pn (G:FGn) (S0:FSs) (B:FBb) (W:FBl) (F:FSk) (P0:Ah0) (L:Xp) (S:Sl) (P:Qm) (N:Qn) (O:Qo) (T:Pl):Ctx:=I7 Tryz.prog (plRe G S0 B W F P0 L S P N O T) [(8,Tryz.f8)] [((8,15),B8 A2f A51 (Dy [.exit 0] Nv Ah2)),((8,21),B8 Pm Uu (Dy [.ret,.exit 2] (Nw S P N O T) Ah5))]
noncomputable def X_topReturned:Ctx:=Pn Gr Hw If Fx St.skV St.PlayV Wg spV puV7 Jr Js Ie
theorem X_topReturned_ok:CtxOk X_topReturned:=Cp Aw puRe (fns_cons is_TopReturned A0) (Bn (Kk (ds:=[A7r,A2e]) Ayt ⟨Hg (k:=15) B64 rfl Bix,Hg (k:=21) B65 rfl Biz,trivial⟩) Gi)
theorem B67 (G:FGn) (S0:FSs) (B:FBb) (W:FBl) (F:FSk) (P0:Ah0) (L:Xp) (S:Sl) (P:Qm) (N:Qn) (O:Qo) (T:Pl) (y:TCTs cs_topReturned):Dx (Pn G S0 B W F P0 L S P N O T) 10 (.fn 8) (E7 cs_topReturned y) Ce 0 Ack=B66 G S0 B W F P0 L S P N O T y.1 y.2.1 y.2.2.1:=by kernel_rfl
end V
end Go.Proofs.YtcfanlgpkefogaaGreat
