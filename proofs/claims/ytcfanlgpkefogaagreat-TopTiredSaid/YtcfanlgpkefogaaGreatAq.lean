import Derived.Test.YtcfanlgpkefogaaGreatAp
import Derived.Test.YtcfanlgpkefogaaGreatAg
import Derived.Test.YtcfanlgpkefogaaGreatFo
namespace Go.Proofs.YtcfanlgpkefogaaGreat
open Go.RowKit
namespace V
namespace Tp
open St
theorem is_TopTired:FnIs Tryz.prog (4,Tryz.f4):=⟨Tryz.func4,by kernel_rfl,by kernel_rfl⟩
def Bvi:Lay:={ keys:=[4,12,15,18],ks:=[.d (.i .u8),.p 13 0 0 0,.p 27 0 0 0,.d cI],bs:=[(13,41,kGr),(27,45,kSt)],n:=135,nx:=1000,marks:=[] }
def D5n:Lay:={ keys:=[],ks:=[],bs:=[],n:=135,nx:=1000,marks:=[] }
def D1s:Lay:={ keys:=[10],ks:=[.d .b],bs:=[],n:=135,nx:=1000,marks:=[] }
def C0f:XE→Lay:=fun e=>match e with | .ret=>D1s | _=>D5n
noncomputable def Cgf:Code:=(Ban (bodyOf Tryz.f4)).getD 0 .skip
abbrev Cgg:=Tree (Bvi.T⊕V2 C0f)
def Bqc (tk:Int) (g:SKTs kGr) (t:SKTs kSt) (i:Int):Bvi.T:=((tk,(),(),i,()),(g,t,()))
def Bnk (b:Bool):V2 C0f:=⟨.ret,((b,()),())⟩
def Cgh:V2 C0f:=⟨.exit 0,((),())⟩
def wk5 (m:Bak):TCTs [cI,cI]:=Btm (bm Bf7 (Bas m (Int.toNat 0) (Bap Baw))) (bm Bf7 (Bas m (Int.toNat 1) (Bap Baw)))
def C8s (tk:Int) (g:SKTs kGr) (t:SKTs kSt) (i:Int) (r:TkR):Cgg:=bif r.2.2.1 != 0 then bif r.2.2.1==4 then .leaf (.inr (Bnk true)) else .leaf (.inr (Bnk false)) else
 bif ((t.1:Bak).length:Int)!=2 then .leaf (.inr (Bnk false)) else bif ((r.1.1:Bak).length:Int)!=2 then .leaf (.inr (Bnk false)) else
 inN (t.1:Bak).length 0 (inN (t.1:Bak).length 1 (inN (r.1.1:Bak).length 0 (inN (r.1.1:Bak).length 1 (
  bif (wk5 t.1).2.1 != 0 then .leaf (.inr (Bnk false)) else bif (wk5 r.1.1).2.1 != 0 then .leaf (.inr (Bnk false)) else bif decide ((wk5 r.1.1).1>(wk5 t.1).1) then .leaf (.inr (Bnk false)) else .leaf (.inl (Bqc tk g r.1 (W64 (i+1))))))))
def Bw8 (U:FTk) (tk:Int) (g:SKTs kGr) (t:SKTs kSt) (i:Int):Cgg:=bif decide (i<Int.tmod (W64 tk) 41) then szT (lwG g) (C8s tk g t i (U (Cq4 g) t)) else .leaf (.inr Cgh)
def Bnl (U:FTk) (x:Bvi.T):Cgg:=Bw8 U x.1.1 x.2.1 x.2.2.1 x.1.2.2.2.1
def Cgi (_:Bvi.T):Nat:=50
noncomputable def plTt1 (U:FTk):List (Nat×PureT):=(14,D1k U)::(9,C8o)::(16,By0)::(15,Cmp)::[]
theorem puTt1:Bc7 Tryz.prog (plTt1 TickV):=puOk_cons is_sTick.plain Crq (puOk_cons is_works05.plain Cc9 (puOk_cons is_round.plain C8m (puOk_cons is_Work.plain D0r puOk_nil)))
noncomputable def C0g (U:FTk):Ctx:=ctx Tryz.prog (plTt1 U) []
theorem Cgj:CtxOk (C0g TickV):=Baq Bao puTt1 V1
theorem Cos (U:FTk) (g:Bvi.T):evC (C0g U).P (Bcx (C0g U) 7) (C0g U).pures 4 (C0g U).u (fun _=>none) Cgf (Bvi.of g) (Bew Bvi C0f)=Bnl U g:=by kernel_rfl
theorem D5o:Bb0 Tryz.prog 4 Cgf (Baz Bvi C0f (Bdg [.ret,.exit 0] (Bnl TickV) Cgi)):=Bbl Cgj 7 _ Bvi C0f (fun e=>by cases e <;> exact Nat.le_refl _) [.ret,.exit 0] (Bnl TickV) Cgi (Cos TickV)
noncomputable def plTt (G:FGn) (S:FSs) (B:FBb) (W:FBl) (F:FSk) (U:FTk):List (Nat×PureT):=(10,Cg3 G S B)::(12,Cg4 W)::(11,D1j F)::plTt1 U
theorem puTt:Bc7 Tryz.prog (plTt Bgu Bkg Bmb Bkf skV TickV):=puOk_cons is_set.plain Cwt (puOk_cons is_blow.plain Cwu (puOk_cons is_sStrike.plain Cd6 puTt1))
def Cot:Tree Unit:=.leaf ()
def D1t (y:Option (V2 C0f)):Tree Unit:=bif isE .ret y then bif (Bcg .ret y).1.1 then Cot else .fail else bif isE (.exit 0) y then Cot else .fail
def Cuz (U:FTk) (tk:Int) (g:TCT cGr) (r:TkR):Tree Unit:=bif r.2.2.1 != 0 then bif r.2.2.1==4 then Cot else .fail else D1t (iter (Bnl U) 50 (Bqc tk (Bds g) r.1 0))
def Cgk (F:FSk) (U:FTk) (tk:Int) (g:TCT cGr) (s:TCT cSt) (b:Bool) (w:TCT cBl):Tree Unit:=bif !b then Cot else szT g.1 (Cuz U tk g (F g s w))
def D1u (G:FGn) (S:FSs) (B:FBb) (W:FBl) (F:FSk) (U:FTk) (l:List (TCT Bdx)) (w:TCT Bni) (dr x0 x1 tk:Int):Tree Unit :=
 Cgk F U tk (Cuw (G (W64 dr) 0 (Int.tmod (W64 x0) 951,Int.tmod (W64 x1) 301,()) l)) (St.etaS (S (W64 dr) 0 (Int.tmod (W64 x0) 951,Int.tmod (W64 x1) 301,()) l)) (B (W64 dr) 0 (Int.tmod (W64 x0) 951,Int.tmod (W64 x1) 301,()) l) (Cux (W w 1))
end Tp
open Tp
abbrev cs_topTired:List TC:=[.st [Bdx,Bdx],Bni,.i .u16,.st [.i .u16,.i .u16],.i .u8]
noncomputable def Bqd (G:FGn) (S:FSs) (B:FBb) (W:FBl) (F:FSk) (U:FTk):Ctx:=Bh4 Tryz.prog (plTt G S B W F U) [(4,Tryz.f4)] [((4,9),Baz Bvi C0f (Bdg [.ret,.exit 0] (Bnl U) Cgi))]
noncomputable def X_topTired:Ctx:=Bqd Bgu Bkg Bmb Bkf St.skV St.TickV
theorem X_topTired_ok:CtxOk X_topTired:=Bca Bao puTt (fns_cons is_TopTired V1) (Bbv (by kernel_rfl) (by kernel_rfl) D5o)
theorem Cou (G:FGn) (S:FSs) (B:FBb) (W:FBl) (F:FSk) (U:FTk) (y:TCTs cs_topTired):Bcx (Bqd G S B W F U) 10 (.fn 4) (Bdi cs_topTired y) Bbx 0 C8b=D1u G S B W F U [y.1.1,y.1.2.1] y.2.1 y.2.2.1 y.2.2.2.1.1 y.2.2.2.1.2.1 y.2.2.2.2.1:=by kernel_rfl
end V
end Go.Proofs.YtcfanlgpkefogaaGreat
