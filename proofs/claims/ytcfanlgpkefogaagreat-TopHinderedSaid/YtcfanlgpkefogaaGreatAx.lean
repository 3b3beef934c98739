import Derived.Test.YtcfanlgpkefogaaGreatAv
import Derived.Test.YtcfanlgpkefogaaGreatDw
namespace Go.Proofs.YtcfanlgpkefogaaGreat
open Go.RowKit
namespace V
namespace Tp
open St
theorem is_TopHindered:FnIs Tryz.prog (6,Tryz.f6):=⟨Tryz.func6,by kernel_rfl,by kernel_rfl⟩
abbrev FPl:Type:=TCT cGr→TCT cSt→Int→TkR
abbrev FIw:Type:=TCT Ban→TCT cPt→TCT cPt→Int→List (TCT Baf)→List Int×Int
abbrev FTw:Type:=TCT cPt→TCT cPt→Int→TCT cPt×Int
abbrev FPs:Type:=TCT Ban→List (TCT Baf)
abbrev D8q (P:FPl):PureT:=Bbh [cGr,cSt,cI] [cSt,.sl cKn,cI] (fun x=>Cu7 x.1) (fun x=>Buw (P x.1 x.2.1 x.2.2.1))
abbrev D1g (I:FIw):PureT:=Bbh [Ban,cPt,cPt,cI,.sl Baf] [.sl cI,cI] (fun x=>decide ((x.1.1.size:Int)≤Bb2 .i64)) (fun x=>((I x.1 x.2.1 x.2.2.1 x.2.2.2.1 x.2.2.2.2.1).1,(I x.1 x.2.1 x.2.2.1 x.2.2.2.1 x.2.2.2.2.1).2,()))
abbrev D1h (T:FTw):PureT:=Bbh [cPt,cPt,cI] [cPt,cI] (fun _=>true) (fun x=>(((T x.1 x.2.1 x.2.2.1).1.1,(T x.1 x.2.1 x.2.2.1).1.2.1,()),(T x.1 x.2.1 x.2.2.1).2,()))
abbrev D1i (Q:FPs):PureT:=Bbh [Ban] [.sl Baf,cI] (fun x=>decide ((x.1.1.size:Int)≤Bb2 .i64)) (fun x=>(Q x.1,Bc3 x.1,()))
def Bxk:FTw:=fun p q l=>(((TwR p.1 p.2.1 q.1 q.2.1 l).1.1,(TwR p.1 p.2.1 q.1 q.2.1 l).1.2,()),(TwR p.1 p.2.1 q.1 q.2.1 l).2)
def Bnp:FIw:=fun l a b r o=>(Bn5 l a b r o,Bi1 l a b r o)
theorem D8r:Bai Tryz.prog 23 (D1h Bxk):=Bya
theorem D8s:Bai Tryz.prog 24 (D1g Bnp):=Cc5
theorem D8t:Bai Tryz.prog 25 (D1i postsV):=C0v
noncomputable def C8h:Code:=(Bak (bodyOf Tryz.f6)).getD 0 .skip
noncomputable def Btm:Code:=(Bak (bodyOf Tryz.f6)).getD 1 .skip
noncomputable def C0d:Code:=(Bak (bodyOf Tryz.f6)).getD 2 .skip
abbrev D8u:List BK:=[(1,41,kGr),(9,31,kP6),(39,31,kP6)]
def Brp:Lay:={ keys:=[0,9,19,20,21,22,23],ks:=[.d (.sl Bbk),.p 1 0 0 0,.o 58 cKn,.p 9 0 0 0,.p 39 0 0 0,.o 33 Baf,.d cI],bs:=D8u,n:=228,nx:=1000,marks:=[] }
def D8v:Lay:={ keys:=[9,19,20,21,22],ks:=[.p 1 0 0 0,.o 58 cKn,.p 9 0 0 0,.p 39 0 0 0,.o 33 Baf],bs:=D8u,n:=228,nx:=1000,marks:=[] }
def Btn:XE→Lay:=fun _=>D8v
def Bnb:Lay:={ keys:=[19,24,25,27],ks:=[.o 58 cKn,.d (.sl cI),.d (.sl Baf),.d cI],bs:=[],n:=228,nx:=3000,marks:=[] }
def D8w:Lay:={ keys:=[],ks:=[],bs:=[],n:=228,nx:=3000,marks:=[] }
def D8x:Lay:={ keys:=[8],ks:=[.d .b],bs:=[],n:=228,nx:=3000,marks:=[] }
def Bop:XE→Lay:=fun e=>match e with | .ret=>D8x | _=>D8w
abbrev C8i:List SK:=[.d cI,.d cI,.d cI,.d cI,.d cI]
def Brq:Lay:={ keys:=[24,28,29,30,31],ks:=[.d (.sl cI),.p 3001 0 0 0,.d cI,.d .b,.d cI],bs:=[(3001,58,C8i)],n:=228,nx:=5000,marks:=[] }
def D8y:Lay:={ keys:=[28,30],ks:=[.p 3001 0 0 0,.d .b],bs:=[(3001,58,C8i)],n:=228,nx:=5000,marks:=[] }
def Bto:XE→Lay:=fun _=>D8y
noncomputable def plTh0:List (Nat×PureT):=[(16,C02),(22,C82),(17,Bmf)]
theorem puTh0:Bcd Tryz.prog plTh0:=puOk_cons is_round.plain Cc7 (puOk_cons is_spot.plain Ckd (puOk_cons is_works04.plain Cgp puOk_nil))
noncomputable def C3d:Ctx:=ctx Tryz.prog plTh0 []
theorem Btp:CtxOk C3d:=Bas Bar puTh0 V1
abbrev G6:Type:=SKTs kGr
structure QTh where
 l:List (TCT Bbk)
 g:SKTs kGr
 ks:Kns
 a:SKTs kP6
 b:SKTs kP6
def C0e (q:QTh) (os:List (TCT Baf)) (i:Int):Brp.T:=((q.l,(),q.ks,(),(),os,i,()),(q.g,q.a,q.b,()))
def C8j (q:QTh) (os:List (TCT Baf)):Fq Btn:=⟨.exit 0,(((),q.ks,(),(),os,()),(q.g,q.a,q.b,()))⟩
def Btq (q:QTh) (os:List (TCT Baf)) (i:Int):Tree (Brp.T⊕Fq Btn):=bif decide (i<(q.l.length:Int)) then inN q.l.length i (bif Bcs os [Bg8 (spt (Bam q.l (Int.toNat i) (Baj Bbk)))] 24 then .leaf (.inl (C0e q (os++[Bg8 (spt (Bam q.l (Int.toNat i) (Baj Bbk)))]) (W64 (i+1)))) else .fail) else .leaf (.inr (C8j q os))
def Bqg (x:Brp.T):Tree (Brp.T⊕Fq Btn):=Btq ⟨x.1.1,x.2.1,x.1.2.2.1,x.2.2.1,x.2.2.2.1⟩ x.1.2.2.2.2.2.1 x.1.2.2.2.2.2.2.1
def C8k (x:Brp.T):Nat:=(x.1.1:List (TCT Bbk)).length+1
theorem D8z:Baw Tryz.prog 6 C8h (Bav Brp Btn (Bcm [.exit 0] Bqg C8k)):=Bb9 Btp 7 _ Brp Btn (fun _=>Nat.le_refl _) [.exit 0] Bqg C8k (fun g=>by kernel_rfl)
def Bj7 (is:List Int) (k:SKTs C8i) (w:Int) (f:Bool) (j:Int):Brq.T:=((is,(),w,f,j,()),(k,()))
def C8l (k:SKTs C8i) (f:Bool):Fq Bto:=⟨.exit 4,(((),f,()),(k,()))⟩
def Btr (is:List Int) (k:SKTs C8i) (w:Int) (f:Bool) (j:Int):Tree (Brq.T⊕Fq Bto):=bif decide (j<(is.length:Int)) then bif f then .leaf (.inl (Bj7 is k w true (W64 (j+1)))) else inN is.length j (.leaf (.inl (Bj7 is k w (Bam is (Int.toNat j) (Baj cI)==w) (W64 (j+1))))) else .leaf (.inr (C8l k f))
def Bi2 (x:Brq.T):Tree (Brq.T⊕Fq Bto):=Btr x.1.1 x.2.1 x.1.2.2.1 x.1.2.2.2.1 x.1.2.2.2.2.1
def C8m (x:Brq.T):Nat:=(x.1.1:List Int).length+1
theorem D90:Baw Tryz.prog 6 C0d (Bav Brq Bto (Bcm [.exit 4] Bi2 C8m)):=Bb9 Btp 7 _ Brq Bto (fun _=>Nat.le_refl _) [.exit 4] Bi2 C8m (fun g=>by kernel_rfl)
abbrev C8n:=Tree (Bnb.T⊕Fq Bop)
def Bla (ks:Kns) (is:List Int) (ps:List (TCT Baf)) (i:Int):Bnb.T:=((ks,is,ps,i,()),())
def Blb (b:Bool):Fq Bop:=⟨.ret,((b,()),())⟩
def Bts:Fq Bop:=⟨.exit 2,((),())⟩
def Btt (y:Option (Fq Bto)):C8n:=bif isE (.exit 4) y then bif (Bc2 (.exit 4) y).2.1.2.2.2.1==0 then bif (Bc2 (.exit 4) y).1.2.1 then .leaf (.inr (Blb true)) else .leaf (.inr (Blb false)) else .leaf (.inr (Blb false)) else .fail
def kx5 (ks:Kns) (i:Int):TCT cKn:=Bam ks (Int.toNat i) (Baj cKn)
def Btu (ks:Kns) (is:List Int) (ps:List (TCT Baf)) (i:Int):C8n:=bif decide (i<(ks.length:Int)) then inO ks.length i (bif (kx5 ks i).2.2.1==2 then .leaf (.inl (Bla ks is ps (W64 (i+1)))) else
 bif (kx5 ks i).2.2.1==0 then Btt (iter Bi2 (is.length+1) (Bj7 is (kx5 ks i) (W64 (W64 ((ps.length:Int)+(kx5 ks i).2.2.2.2.1)-1)) false 0)) else Btt (iter Bi2 (is.length+1) (Bj7 is (kx5 ks i) (kx5 ks i).2.2.2.2.1 false 0))) else .leaf (.inr Bts)
def Bk1 (x:Bnb.T):C8n:=Btu x.1.1 x.1.2.1 x.1.2.2.1 x.1.2.2.2.1
def C8o (x:Bnb.T):Nat:=(x.1.1:Kns).length+1
noncomputable def D1j:Bie:=Bc4 [((6,39),Bav Brq Bto (Bcm [.exit 4] Bi2 C8m))] 6
theorem Cl7 (g:Bnb.T):evC C3d.P (Bcr C3d 7) C3d.pures 6 C3d.u D1j Btm (Bnb.of g) (Bet Bnb Bop)=Bk1 g:=by kernel_rfl
theorem Cgt:Bak Btm=[C0d]:=by kernel_rfl
theorem Cue:keyOf C8h=22:=by kernel_rfl
theorem Cuf:keyOf Btm=30:=by kernel_rfl
theorem Ccg:keyOf C0d=39:=by kernel_rfl
theorem Cl8:Bak (bodyOf Tryz.f6)=[C8h,Btm,C0d]:=by kernel_rfl
theorem D91:Baw Tryz.prog 6 Btm (Bav Bnb Bop (Bcm [.ret,.exit 2] Bk1 C8o)) :=
 Bmd Btp 7 _ D1j (fun d hd f hf=>by
  rw [Cgt,List.mem_singleton] at hd
  subst hd
  rw [Ccg] at hf
  exact Option.some.inj (show some _=some f from hf) ▸ D90) Bnb Bop (fun e=>by cases e <;> exact Nat.le_refl _) [.ret,.exit 2] Bk1 C8o Cl7
noncomputable def plTh (G:FGn) (S:FSs) (B:FBb) (W:FBl) (F:FSk) (P:FPl) (T:FTw) (I:FIw) (Q:FPs):List (Nat×PureT):=(10,C86 G S B)::(12,C87 W)::(11,D18 F)::(21,D8q P)::(23,D1h T)::(24,D1g I)::(25,D1i Q)::plTh0
theorem puTh:Bcd Tryz.prog (plTh Be8 Bf5 Bfu Beg skV PlayV Bxk Bnp postsV):=puOk_cons is_set.plain Ckp (puOk_cons is_blow.plain Ckq (puOk_cons is_sStrike.plain Byz (puOk_cons is_sPlay.plain Cxp (puOk_cons is_Towards.plain D8r (puOk_cons is_InWay.plain D8s (puOk_cons is_Posts.plain D8t puTh0))))))
def Cl9 (y:Option (Fq Bop)):Tree Unit:=bif isE .ret y then bif (Bc2 .ret y).1.1 then lfU5 else .fail else bif isE (.exit 2) y then lfU5 else .fail
def Cug (I:FIw) (g:SKTs kGr) (a b:SKTs kP6) (os:List (TCT Baf)):List Int×Int:=I (lwG g) (a.1,a.2.1,()) (b.1,b.2.1,()) (W64 (2946+6)) os
def Cch (I:FIw) (Q:FPs) (g:SKTs kGr) (ks:Kns) (a b:SKTs kP6) (os:List (TCT Baf)):Tree Unit:=szT (lwG g) (szT (lwG g) (bif (Cug I g a b os).2 != 0 then .fail else bif Bc3 (lwG g)!=0 then .fail else Cl9 (iter Bk1 (ks.length+1) (Bla ks (Cug I g a b os).1 (Q (lwG g)) 0))))
def D1k (I:FIw) (Q:FPs) (y:Option (Fq Btn)):Tree Unit:=bif isE (.exit 0) y then Cch I Q (Bc2 (.exit 0) y).2.1 (Bc2 (.exit 0) y).1.2.1 (Bc2 (.exit 0) y).2.2.1 (Bc2 (.exit 0) y).2.2.2.1 (Bc2 (.exit 0) y).1.2.2.2.2.1 else .fail
def Cci (I:FIw) (Q:FPs) (l:List (TCT Bbk)) (g:TCT cGr) (ks:Kns) (a:TCT cPt) (t:TCT cPt×Int):Tree Unit:=bif t.2 != 0 then bif t.2==4 then lfU5 else .fail else D1k I Q (iter Bqg (l.length+1) (C0e ⟨l,Bcq g,ks,a,(t.1.1,t.1.2.1,())⟩ [] 1))
def Cuh (tk:Int) (w:TCT cBl):Int:=W64 (40+W64 (Int.tmod (W64 tk) 41*W64 (W64 (Int.tdiv (W64 (w.2.2.1+2)) (W64 (4*450)))+17)))
def a05 (l:List (TCT Bbk)):TCT cPt:=spt (Bam l (Int.toNat 0) (Baj Bbk))
def Cla (T:FTw) (I:FIw) (Q:FPs) (l:List (TCT Bbk)) (tk:Int) (g:TCT cGr) (w:TCT cBl) (k1:Kns) (r:TkR):Tree Unit:=bif r.2.2.1 != 0 then bif r.2.2.1==4 then lfU5 else bif r.2.2.1==6 then lfU5 else .fail else
 bif Bcs ([]:Kns) k1 40 then bif Bcs (([]:Kns)++k1) r.2.1 40 then inN l.length 0 (Cci I Q l g ((([]:Kns)++k1)++r.2.1) (a05 l) (T (W64 ((a05 l).1+w.2.1.1),W64 ((a05 l).2.1+w.2.1.2.1),()) (a05 l) (Cuh tk w))) else .fail else .fail
def D1l (P:FPl) (T:FTw) (I:FIw) (Q:FPs) (l:List (TCT Bbk)) (tk:Int) (g:TCT cGr) (w:TCT cBl) (r:TkR):Tree Unit:=bif r.2.2.1 != 0 then bif r.2.2.1==4 then lfU5 else .fail else szT g.1 (Cla T I Q l tk g w r.2.1 (P g (St.etaS r.1) (Int.tmod (W64 tk) 41)))
def D1m (w:TCT cBl):TCT cBl:=(w.1,(w.2.1.1,w.2.1.2.1,()),w.2.2.1,0,())
def Clb (F:FSk) (P:FPl) (T:FTw) (I:FIw) (Q:FPs) (l:List (TCT Bbk)) (tk:Int) (g:TCT cGr) (s:TCT cSt) (b:Bool) (w:TCT cBl):Tree Unit:=bif !b then lfU5 else szT g.1 (D1l P T I Q l tk g w (F g s (D1m w)))
def Cui (G:FGn) (S:FSs) (B:FBb) (W:FBl) (F:FSk) (P:FPl) (T:FTw) (I:FIw) (Q:FPs) (l:List (TCT Bbk)) (w:TCT Bdn) (dr tk:Int):Tree Unit :=
 bif (l.length:Int)==0 then lfU5 else bif decide ((l.length:Int)>4) then lfU5 else bif decide (l.length≤1000) then Clb F P T I Q l tk (Cko (G (W64 dr) 0 (700,0,()) l)) (St.etaS (S (W64 dr) 0 (700,0,()) l)) (B (W64 dr) 0 (700,0,()) l) (W w 0) else .fail
end Tp
open Tp
abbrev cs_topHindered:List TC:=[.sl Bbk,Bdn,.i .u16,.i .u8]
noncomputable def Blc (G:FGn) (S:FSs) (B:FBb) (W:FBl) (F:FSk) (P:FPl) (T:FTw) (I:FIw) (Q:FPs):Ctx:=Bh4 Tryz.prog (plTh G S B W F P T I Q) [(6,Tryz.f6)] [((6,22),Bav Brp Btn (Bcm [.exit 0] Bqg C8k)),((6,30),Bav Bnb Bop (Bcm [.ret,.exit 2] Bk1 C8o))]
noncomputable def X_topHindered:Ctx:=Blc Be8 Bf5 Bfu Beg St.skV St.PlayV Bxk Bnp St.postsV
theorem X_topHindered_ok:CtxOk X_topHindered:=Bca Bar puTh (fns_cons is_TopHindered V1) (Bbg (fun d hd g hg=>by
 rw [Cl8,List.mem_cons,List.mem_cons,List.mem_singleton] at hd
 rcases hd with rfl | rfl | rfl
 ·rw [Cue] at hg;exact Option.some.inj (show some _=some g from hg) ▸ D8z
 ·rw [Cuf] at hg;exact Option.some.inj (show some _=some g from hg) ▸ D91
 ·rw [Ccg] at hg;exact nomatch (show none=some g from hg)) Bgg)
theorem Cuj (G:FGn) (S:FSs) (B:FBb) (W:FBl) (F:FSk) (P:FPl) (T:FTw) (I:FIw) (Q:FPs) (y:TCTs cs_topHindered):Bcr (Blc G S B W F P T I Q) 10 (.fn 6) (Bdd cs_topHindered y) Bbz 0 C7n=Cui G S B W F P T I Q y.1 y.2.1 y.2.2.1 y.2.2.2.1:=by kernel_rfl
end V
end Go.Proofs.YtcfanlgpkefogaaGreat
