import Derived.Test.YtcfanlgpkefogaaGreatAt
import Derived.Test.YtcfanlgpkefogaaGreatAg
import Derived.Test.YtcfanlgpkefogaaGreatFo
import Derived.Test.YtcfanlgpkefogaaGreatAj
namespace Go.Proofs.YtcfanlgpkefogaaGreat
open Go.RowKit
namespace V
namespace Tp
open St
theorem is_TopGrass:FnIs Tryz.prog (5,Tryz.f5):=⟨Tryz.func5,by kernel_rfl,by kernel_rfl⟩
noncomputable def Bya:Code:=(Bal (bodyOf Tryz.f5)).getD 0 .skip
noncomputable def Byb:Code:=(Bal (bodyOf Tryz.f5)).getD 1 .skip
abbrev D65:List BK:=[(1,41,kGr),(2,45,kSt)]
def Bma:Lay:={ keys:=[0,4,11,12,16],ks:=[.d (.sl Bcn),.d cU8,.p 1 0 0 0,.p 2 0 0 0,.d cI],bs:=D65,n:=211,nx:=1000,marks:=[] }
def D2b:Lay:={ keys:=[],ks:=[],bs:=[],n:=211,nx:=1000,marks:=[] }
def Cvl (nx:Nat):Lay:={ keys:=[10],ks:=[.d .b],bs:=[],n:=211,nx:=nx,marks:=[] }
def Bqe:XE→Lay:=fun e=>match e with | .ret=>Cvl 1000 | _=>D2b
abbrev Cvm:List BK:=[(1,41,kGr),(2,45,kSt),(1000,45,kSt)]
def Bs9:Lay:={ keys:=[0,4,11,12,16,17,18,20],ks:=[.d (.sl Bcn),.d cU8,.p 1 0 0 0,.p 2 0 0 0,.d cI,.p 1000 0 0 0,.d (.sl cKn),.d cI],bs:=Cvm,n:=211,nx:=3000,marks:=[] }
def D2c:Lay:={ keys:=[0,4,11,12,16,17],ks:=[.d (.sl Bcn),.d cU8,.p 1 0 0 0,.p 2 0 0 0,.d cI,.p 1000 0 0 0],bs:=Cvm,n:=211,nx:=3000,marks:=[] }
def Bsa:XE→Lay:=fun e=>match e with | .ret=>Cvl 3000 | _=>D2c
structure QTg where
 l:List (TCT Bcn)
 tk:Int
 g:SKTs kGr
 s:SKTs kSt
 t:SKTs kSt
 ks:Kns
 i:Int
def Bsb (q:QTg) (k:Int):Bs9.T:=((q.l,q.tk,(),(),q.i,(),q.ks,k,()),(q.g,q.s,q.t,()))
def Byc (q:QTg):V1 Bsa:=⟨.exit 2,((q.l,q.tk,(),(),q.i,(),()),(q.g,q.s,q.t,()))⟩
def Cxu (b:Bool):V1 Bsa:=⟨.ret,((b,()),())⟩
noncomputable def plTg2:List (Nat×PureT):=(17,C93)::(16,By7)::(18,Bsp)::(19,C7y)::(20,Cna)::[]
theorem puTg2:Bc5 Tryz.prog plTg2:=puOk_cons is_works04.plain Cco (puOk_cons is_round.plain C91 (puOk_cons is_CellAt.plain C1x (puOk_cons is_Slow.plain Cnb (puOk_cons is_Tick.plain D1f puOk_nil))))
noncomputable def D2d:Ctx:=ctx Tryz.prog plTg2 []
theorem Ch0:CtxOk D2d:=Bap Bao puTg2 No
abbrev Byd:=Tree (Bs9.T⊕V1 Bsa)
def zM5 (m:TCT Baq):Bool:=m.2.1.1==0&&(m.2.1.2.1==0&&true)
def Cxv (a b:TCT Baq):Bool:=a.2.1.1==b.2.1.1&&(a.2.1.2.1==b.2.1.2.1&&true)
def Bkj (q:QTg) (k:Int):Byd:=.leaf (.inl (Bsb q (W64 (k+1))))
def Bpa:Byd:=.leaf (.inr (Cxu false))
def tkM (m:TCT Baq):Brg:=C3s 1 (bm Be0 m)
def C5m (q:QTg) (k:Int) (m:TCT Baq):Byd:=bif zM5 m then inN (q.t.1:Baj).length k (bif !Cxv (moT q.t k) m then Bpa else Bkj q k) else Bkj q k
def Bpb (q:QTg) (k:Int) (m:TCT Baq):Byd:=bif (tkM m).2.1 != 0 then Bpa else bif !zM5 m then inN (q.t.1:Baj).length k (bif !Ccp (tkM m).1 (moT q.t k) then Bpa else C5m q k m) else C5m q k m
def Bye (q:QTg) (k:Int) (m:TCT Baq):Byd:=szT (lwG q.g) (bif Bdr (lwG q.g) m.1 != 0 then Bpa else bif (Bhq (lwG q.g) m).2.1 != 0 then Bpa else Bpb q k (Bsw (lwG q.g) m))
def C5n (q:QTg) (k:Int) (m:TCT Baq):Byd:=bif zM5 m then inN (q.t.1:Baj).length k (bif !Ccp (moT q.t k) m then Bpa else Bkj q k) else bif k != q.s.2.2.1 then Bye q k m else bif q.s.2.2.2.1==0 then Bye q k m else Bpb q k m
def Bkk (q:QTg) (k:Int):Byd:=bif decide (k<(q.l.length:Int)) then bif (q.ks.length:Int)==0 then inN (q.s.1:Baj).length k (C5n q k (moT q.s k)) else .leaf (.inr (Byc q)) else .leaf (.inr (Byc q))
def Bmo (x:Bs9.T):Byd:=Bkk ⟨x.1.1,x.1.2.1,x.2.1,x.2.2.1,x.2.2.2.1,x.1.2.2.2.2.2.2.1,x.1.2.2.2.2.1⟩ x.1.2.2.2.2.2.2.2.1
def C5o (x:Bs9.T):Nat:=(x.1.1:List (TCT Bcn)).length+1
theorem D2e:Bb0 Tryz.prog 5 Byb (Baw Bs9 Bsa (Bd4 [.ret,.exit 2] Bmo C5o)):=Bbi Ch0 7 _ Bs9 Bsa (fun e=>by cases e <;> exact Nat.le_refl _) [.ret,.exit 2] Bmo C5o (fun g=>by kernel_rfl)
abbrev Ch1:=Tree (Bma.T⊕V1 Bqe)
def Bkl (l:List (TCT Bcn)) (tk:Int) (g:SKTs kGr) (s:SKTs kSt) (i:Int):Bma.T:=((l,tk,(),(),i,()),(g,s,()))
def Bmp (b:Bool):V1 Bqe:=⟨.ret,((b,()),())⟩
def C5p:V1 Bqe:=⟨.exit 0,((),())⟩
def Ch2 (y:Option (V1 Bsa)):Ch1:=bif isE .ret y then .leaf (.inr (Bmp (Bca .ret y).1.1)) else bif isE (.exit 2) y then .leaf (.inl (Bkl (Bca (.exit 2) y).1.1 (Bca (.exit 2) y).1.2.1 (Bca (.exit 2) y).2.1 (Bca (.exit 2) y).2.2.2.1 (W64 ((Bca (.exit 2) y).1.2.2.2.2.1+1)))) else .fail
def Byf (l:List (TCT Bcn)) (tk:Int) (g:SKTs kGr) (s:SKTs kSt) (i:Int) (r:TkR):Ch1:=bif r.2.2.1 != 0 then bif r.2.2.1==4 then .leaf (.inr (Bmp true)) else .leaf (.inr (Bmp false)) else
 bif ((r.1.1:Baj).length:Int)!=(l.length:Int) then .leaf (.inr (Bmp false)) else bif ((s.1:Baj).length:Int)!=(l.length:Int) then .leaf (.inr (Bmp false)) else Ch2 (iter Bmo (l.length+1) (Bsb ⟨l,tk,g,s,r.1,r.2.1,i⟩ 0))
def Bpc (U:FTk) (l:List (TCT Bcn)) (tk:Int) (g:SKTs kGr) (s:SKTs kSt) (i:Int):Ch1:=bif decide (i<Int.tmod (W64 tk) 11) then szT (lwG g) (Byf l tk g s i (U (Cql g) s)) else .leaf (.inr C5p)
def Bja (U:FTk) (x:Bma.T):Ch1:=Bpc U x.1.1 x.1.2.1 x.2.1 x.2.2.1 x.1.2.2.2.2.1
def C5q (_:Bma.T):Nat:=20
noncomputable def plTg1 (U:FTk):List (Nat×PureT):=(14,D27 U)::plTg2
theorem puTg1:Bc5 Tryz.prog (plTg1 TickV):=puOk_cons is_sTick.plain Cs7 puTg2
noncomputable def C0t (U:FTk):Ctx:=ctx Tryz.prog (plTg1 U) []
theorem Ch3:CtxOk (C0t TickV):=Bap Bao puTg1 No
noncomputable def Cvn:Bi3:=Bby [((5,18),Baw Bs9 Bsa (Bd4 [.ret,.exit 2] Bmo C5o))] 5
theorem Ch4 (U:FTk) (g:Bma.T):evC (C0t U).P (Bcx (C0t U) 7) (C0t U).pures 5 (C0t U).u Cvn Bya (Bma.of g) (Bev Bma Bqe)=Bja U g:=by kernel_rfl
theorem Ccs:Bal Bya=[Byb]:=by kernel_rfl
theorem C96:keyOf Byb=18:=by kernel_rfl
theorem Ch5:Bal (bodyOf Tryz.f5)=[Bya,Byb]:=by kernel_rfl
theorem D2f:Bb0 Tryz.prog 5 Bya (Baw Bma Bqe (Bd4 [.ret,.exit 0] (Bja TickV) C5q)) :=
 Bp6 Ch3 7 _ Cvn (fun d hd f hf=>by
  rw [Ccs,List.mem_singleton] at hd
  subst hd
  rw [C96] at hf
  exact Option.some.inj (show some _=some f from hf) ▸ D2e) Bma Bqe (fun e=>by cases e <;> exact Nat.le_refl _) [.ret,.exit 0] (Bja TickV) C5q (Ch4 TickV)
noncomputable def plTg (G:FGn) (S:FSs) (B:FBb) (W:FBl) (F:FSk) (U:FTk):List (Nat×PureT):=(10,Cgl G S B)::(12,Cgm W)::(11,D26 F)::plTg1 U
theorem puTg:Bc5 Tryz.prog (plTg Bgr Bk3 Bki Bkb skV TickV):=puOk_cons is_set.plain Cxj (puOk_cons is_blow.plain Cxk (puOk_cons is_sStrike.plain Cdm puTg1))
def D2g (y:Option (V1 Bqe)):Tree Unit:=bif isE .ret y then bif (Bca .ret y).1.1 then Ccq else .fail else bif isE (.exit 0) y then Ccq else .fail
def Cvo (U:FTk) (l:List (TCT Bcn)) (tk:Int) (g:TCT cGr) (r:TkR):Tree Unit:=bif r.2.2.1 != 0 then bif r.2.2.1==4 then Ccq else .fail else D2g (iter (Bja U) 20 (Bkl l tk (Bcb g) r.1 0))
def Ch6 (F:FSk) (U:FTk) (l:List (TCT Bcn)) (tk:Int) (g:TCT cGr) (s:TCT cSt) (b:Bool) (w:TCT cBl):Tree Unit:=bif !b then Ccq else szT g.1 (Cvo U l tk g (F g s w))
def Cpa (G:FGn) (S:FSs) (B:FBb) (W:FBl) (F:FSk) (U:FTk) (l:List (TCT Bcn)) (w:TCT Bm7) (dr sl tk:Int):Tree Unit :=
 bif (l.length:Int)==0 then Ccq else bif decide ((l.length:Int)>4) then Ccq else bif decide (l.length≤1000) then Ch6 F U l tk (Cvj (G (W64 dr) (W64 (W64 sl*16)) (700,0,()) l)) (St.etaS (S (W64 dr) (W64 (W64 sl*16)) (700,0,()) l)) (B (W64 dr) (W64 (W64 sl*16)) (700,0,()) l) (Cvk (W w 0)) else .fail
end Tp
open Tp
abbrev cs_topGrass:List TC:=[.sl Bcn,Bm7,.i .u16,.i .i8,.i .u8]
noncomputable def Bqf (G:FGn) (S:FSs) (B:FBb) (W:FBl) (F:FSk) (U:FTk):Ctx:=Bgo Tryz.prog (plTg G S B W F U) [(5,Tryz.f5)] [((5,10),Baw Bma Bqe (Bd4 [.ret,.exit 0] (Bja U) C5q))]
noncomputable def X_topGrass:Ctx:=Bqf Bgr Bk3 Bki Bkb St.skV St.TickV
theorem X_topGrass_ok:CtxOk X_topGrass:=Bc8 Bao puTg (fns_cons is_TopGrass No) (St.loops_in (fun d hd hk=>by
 rw [Ch5,List.mem_cons,List.mem_singleton] at hd
 rcases hd with rfl | rfl
 ·rfl
 ·rw [C96] at hk;cases hk) D2f)
theorem Cpb (G:FGn) (S:FSs) (B:FBb) (W:FBl) (F:FSk) (U:FTk) (y:TCTs cs_topGrass):Bcx (Bqf G S B W F U) 10 (.fn 5) (Bdi cs_topGrass y) Bbx 0 C8q=Cpa G S B W F U y.1 y.2.1 y.2.2.1 y.2.2.2.1 y.2.2.2.2.1:=by kernel_rfl
end V
end Go.Proofs.YtcfanlgpkefogaaGreat
