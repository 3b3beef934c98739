import Derived.Test.YtcfanlgpkefogaaGreatAg
import Derived.Test.YtcfanlgpkefogaaGreatNd
import Derived.Test.YtcfanlgpkefogaaGreatFo
namespace Go.Proofs.YtcfanlgpkefogaaGreat
open Go.RowKit
namespace V
namespace Tp
open St
theorem is_TopConserved:FnIs Tryz.prog (3,Tryz.f3):=⟨Tryz.func3,by kernel_rfl,by kernel_rfl⟩
noncomputable def plTc (G:FGn) (S:FSs) (B:FBb) (W:FBl) (F:FSk) (U:FTk) (V:FTt):List (Nat×PureT):=(10,C86 G S B)::(12,C87 W)::(11,D18 F)::(14,D19 U)::(13,D1a V)::(9,Bmf)::[]
theorem puTc:Bcd Tryz.prog (plTc Be8 Bf5 Bfu Beg skV TickV totR):=puOk_cons is_set.plain Ckp (puOk_cons is_blow.plain Ckq (puOk_cons is_sStrike.plain Byz (puOk_cons is_sTick.plain Ce7 (puOk_cons is_sTotal.plain C4n (puOk_cons is_works05.plain Bqc puOk_nil)))))
abbrev cU8:TC:=.i .u8
abbrev Cu8:List BK:=[(1,41,kGr),(2,45,kSt),(12,45,kSt),(16,31,kPt)]
def Bna:Lay:={ keys:=[0,3,9,10,12,13,15,16,17],ks:=[.d (.sl Bbk),.d cU8,.p 1 0 0 0,.p 2 0 0 0,.p 12 0 0 0,.d (.sl cKn),.p 16 0 0 0,.o 4 .b,.d cI],bs:=Cu8,n:=201,nx:=1000,marks:=[] }
def Brm:Lay:={ keys:=[0,3,9,10,12,13,15,16,17,18],ks:=[.d (.sl Bbk),.d cU8,.p 1 0 0 0,.p 2 0 0 0,.p 12 0 0 0,.d (.sl cKn),.p 16 0 0 0,.o 4 .b,.d cI,.d cI],bs:=Cu8,n:=201,nx:=3000,marks:=[] }
def Brn:Lay:={ keys:=[0,3,9,10,12,15,16,17,21],ks:=[.d (.sl Bbk),.d cU8,.p 1 0 0 0,.p 2 0 0 0,.p 12 0 0 0,.p 16 0 0 0,.o 4 .b,.d cI,.d cI],bs:=Cu8,n:=201,nx:=5000,marks:=[] }
def D1b (nx:Nat):Lay:={ keys:=[0,3,9,10,12,15,16,17],ks:=[.d (.sl Bbk),.d cU8,.p 1 0 0 0,.p 2 0 0 0,.p 12 0 0 0,.p 16 0 0 0,.o 4 .b,.d cI],bs:=Cu8,n:=201,nx:=nx,marks:=[] }
def Ckr (nx:Nat):Lay:={ keys:=[8],ks:=[.d .b],bs:=[],n:=201,nx:=nx,marks:=[] }
def D8b:Lay:={ keys:=[],ks:=[],bs:=[],n:=201,nx:=1000,marks:=[] }
def Bro:XE→Lay:=fun e=>match e with | .ret=>Ckr 1000 | _=>D8b
def Bom:XE→Lay:=fun e=>match e with | .ret=>Ckr 3000 | _=>D1b 3000
def Bon:XE→Lay:=fun e=>match e with | .ret=>Ckr 5000 | _=>D1b 5000
noncomputable def C05:Code:=(Bak (bodyOf Tryz.f3)).getD 0 .skip
noncomputable def C06:Code:=(Bak (bodyOf Tryz.f3)).getD 1 .skip
noncomputable def C07:Code:=(Bak (bodyOf Tryz.f3)).getD 2 .skip
noncomputable def plW5:List (Nat×PureT):=[(9,Bmf)]
theorem puW5:Bcd Tryz.prog plW5:=puOk_cons is_works05.plain Bqc puOk_nil
noncomputable def D8c:Ctx:=ctx Tryz.prog plW5 []
theorem C37:CtxOk D8c:=Bas Bar puW5 V1
structure QTc where
 l:List (TCT Bbk)
 tk:Int
 g:SKTs kGr
 s:SKTs kSt
 t:SKTs kSt
 ks:Kns
 sum:SKTs kPt
 hit:List Bool
def Bl8 (q:QTc) (i:Int):Bna.T:=((q.l,q.tk,(),(),(),q.ks,(),q.hit,i,()),(q.g,q.s,q.t,q.sum,()))
def C08 (q:QTc) (i k:Int):Brm.T:=((q.l,q.tk,(),(),(),q.ks,(),q.hit,i,k,()),(q.g,q.s,q.t,q.sum,()))
def Bqd (q:QTc) (i k:Int):Brn.T:=((q.l,q.tk,(),(),(),(),q.hit,i,k,()),(q.g,q.s,q.t,q.sum,()))
def C09 (q:QTc) (i:Int):Fq Bom:=⟨.exit 2,((q.l,q.tk,(),(),(),(),q.hit,i,()),(q.g,q.s,q.t,q.sum,()))⟩
def C88 (q:QTc) (i:Int):Fq Bon:=⟨.exit 4,((q.l,q.tk,(),(),(),(),q.hit,i,()),(q.g,q.s,q.t,q.sum,()))⟩
def Bl9 (b:Bool):Fq Bom:=⟨.ret,((b,()),())⟩
def D3j (b:Bool):Fq Bon:=⟨.ret,((b,()),())⟩
def Bjz (b:Bool):Fq Bro:=⟨.ret,((b,()),())⟩
def C89:Fq Bro:=⟨.exit 0,((),())⟩
def knT (q:QTc) (k:Int):TCT cKn:=Bam q.ks (Int.toNat k) (Baj cKn)
def Bnn (q:QTc) (i k:Int):Tree (Brm.T⊕Fq Bom):=bif decide (k<(q.ks.length:Int)) then inN q.ks.length k (bif (knT q k).2.2.1 != 0 then .leaf (.inr (Bl9 true)) else
 inN q.ks.length k (bif decide ((knT q k).2.2.2.1<0) then .leaf (.inr (Bl9 false)) else inN q.ks.length k (bif decide ((knT q k).2.2.2.1≥(q.l.length:Int)) then .leaf (.inr (Bl9 false)) else
 inN q.ks.length k (bif decide ((knT q k).2.2.2.2.1<0) then .leaf (.inr (Bl9 false)) else inN q.ks.length k (bif decide ((knT q k).2.2.2.2.1≥(q.l.length:Int)) then .leaf (.inr (Bl9 false)) else
 inN q.ks.length k (inN q.ks.length k (inO q.hit.length (knT q k).2.2.2.1 (inO (Bba q.hit (Int.toNat (knT q k).2.2.2.1) true).length (knT q k).2.2.2.2.1 (.leaf (.inl (C08 { q with hit:=Bsu q.hit (knT q k) } i (W64 (k+1))))))))))))) else .leaf (.inr (C09 q i))
def Bqe (x:Brm.T):Tree (Brm.T⊕Fq Bom):=Bnn ⟨x.1.1,x.1.2.1,x.2.1,x.2.2.1,x.2.2.2.1,x.1.2.2.2.2.2.1,x.2.2.2.2.1,x.1.2.2.2.2.2.2.2.1⟩ x.1.2.2.2.2.2.2.2.2.1 x.1.2.2.2.2.2.2.2.2.2.1
def C8a (x:Brm.T):Nat:=(x.1.2.2.2.2.2.1:Kns).length+1
theorem D8d:Baw Tryz.prog 3 C06 (Bav Brm Bom (Bcm [.ret,.exit 2] Bqe C8a)):=Bb9 C37 7 _ Brm Bom (fun e=>by cases e <;> exact Nat.le_refl _) [.ret,.exit 2] Bqe C8a (fun g=>by kernel_rfl)
def Cu9 (a b:TCT Bat):Bool:=(a.1.1==b.1.1&&(a.1.2.1==b.1.2.1&&true))&&((a.2.1.1==b.2.1.1&&(a.2.1.2.1==b.2.1.2.1&&true))&&((a.2.2.1.1==b.2.2.1.1&&(a.2.2.1.2.1==b.2.2.1.2.1&&true))&&true))
def moT (s:SKTs kSt) (k:Int):TCT Bat:=Bam (s.1:Bal) (Int.toNat k) (Baj Bat)
def Btk (q:QTc) (i k:Int):Tree (Brn.T⊕Fq Bon):=bif decide (k<(q.l.length:Int)) then inO q.hit.length k (bif !Bam q.hit (Int.toNat k) (Baj .b) then inN (q.t.1:Bal).length k (inN (q.s.1:Bal).length k (bif !Cu9 (moT q.t k) (moT q.s k) then .leaf (.inr (D3j false)) else .leaf (.inl (Bqd q i (W64 (k+1)))))) else .leaf (.inl (Bqd q i (W64 (k+1))))) else .leaf (.inr (C88 q i))
def Bno (x:Brn.T):Tree (Brn.T⊕Fq Bon):=Btk ⟨x.1.1,x.1.2.1,x.2.1,x.2.2.1,x.2.2.2.1,[],x.2.2.2.2.1,x.1.2.2.2.2.2.2.1⟩ x.1.2.2.2.2.2.2.2.1 x.1.2.2.2.2.2.2.2.2.1
def C8b (x:Brn.T):Nat:=(x.1.1:List (TCT Bbk)).length+1
theorem D8e:Baw Tryz.prog 3 C07 (Bav Brn Bon (Bcm [.ret,.exit 4] Bno C8b)):=Bb9 C37 7 _ Brn Bon (fun e=>by cases e <;> exact Nat.le_refl _) [.ret,.exit 4] Bno C8b (fun g=>by kernel_rfl)
def Cc9 (a b:SKTs kPt):Bool:=a.1==b.1&&(a.2.1==b.2.1&&true)
abbrev C0a:=Tree (Bna.T⊕Fq Bro)
def Cks (q:QTc) (i:Int) (r:TkR):C0a:=bif r.2.2.1 != 0 then bif r.2.2.1==4 then .leaf (.inr (Bjz true)) else .leaf (.inr (Bjz false)) else .leaf (.inl (Bl8 { q with t:=r.1,ks:=r.2.1 } (W64 (i+1))))
def D8f (U:FTk) (q:QTc) (i:Int):C0a:=szT (lwG q.g) (Cks q i (U (Ch8 q.g) q.t))
def D8g (v:(Bon (.exit 4)).T):QTc:=⟨v.1.1,v.1.2.1,v.2.1,v.2.2.1,v.2.2.2.1,[],v.2.2.2.2.1,v.1.2.2.2.2.2.2.1⟩
def D1c (U:FTk) (y:Option (Fq Bon)):C0a:=bif isE .ret y then .leaf (.inr (Bjz (Bc2 .ret y).1.1)) else bif isE (.exit 4) y then D8f U (D8g (Bc2 (.exit 4) y)) (Bc2 (.exit 4) y).1.2.2.2.2.2.2.2.1 else .fail
def C38 (U:FTk) (V:FTt) (q:QTc) (i:Int):C0a:=szT (lwG q.g) (bif Be0 (Ch8 q.g) q.t != 0 then .leaf (.inr (Bjz false)) else bif !Cc9 (V (Ch8 q.g) q.t) q.sum then .leaf (.inr (Bjz false)) else bif ((q.t.1:Bal).length:Int)!=(q.l.length:Int) then .leaf (.inr (Bjz false)) else
 D1c U (iter Bno (q.l.length+1) (Bqd q i 0)))
def D8h (v:(Bom (.exit 2)).T):QTc:=⟨v.1.1,v.1.2.1,v.2.1,v.2.2.1,v.2.2.2.1,[],v.2.2.2.2.1,v.1.2.2.2.2.2.2.1⟩
def D8i (U:FTk) (V:FTt) (y:Option (Fq Bom)):C0a:=bif isE .ret y then .leaf (.inr (Bjz (Bc2 .ret y).1.1)) else bif isE (.exit 2) y then C38 U V (D8h (Bc2 (.exit 2) y)) (Bc2 (.exit 2) y).1.2.2.2.2.2.2.2.1 else .fail
def Bqf (U:FTk) (V:FTt) (q:QTc) (i:Int):C0a:=bif decide (i≤Int.tmod (W64 q.tk) 31) then D8i U V (iter Bqe (q.ks.length+1) (C08 q i 0)) else .leaf (.inr C89)
def Bk0 (U:FTk) (V:FTt) (x:Bna.T):C0a:=Bqf U V ⟨x.1.1,x.1.2.1,x.2.1,x.2.2.1,x.2.2.2.1,x.1.2.2.2.2.2.1,x.2.2.2.2.1,x.1.2.2.2.2.2.2.2.1⟩ x.1.2.2.2.2.2.2.2.2.1
def C8c (_:Bna.T):Nat:=40
noncomputable def plTu (U:FTk) (V:FTt):List (Nat×PureT):=[(14,D19 U),(13,D1a V),(9,Bmf)]
theorem puTu:Bcd Tryz.prog (plTu TickV totR):=puOk_cons is_sTick.plain Ce7 (puOk_cons is_sTotal.plain C4n (puOk_cons is_works05.plain Bqc puOk_nil))
noncomputable def Ckt (U:FTk) (V:FTt):Ctx:=ctx Tryz.prog (plTu U V) []
theorem Cua:CtxOk (Ckt TickV totR):=Bas Bar puTu V1
noncomputable def D1d:Bie:=Bc4 [((3,18),Bav Brm Bom (Bcm [.ret,.exit 2] Bqe C8a)),((3,29),Bav Brn Bon (Bcm [.ret,.exit 4] Bno C8b))] 3
theorem Cku (U:FTk) (V:FTt) (g:Bna.T):evC (Ckt U V).P (Bcr (Ckt U V) 7) (Ckt U V).pures 3 (Ckt U V).u D1d C05 (Bna.of g) (Bet Bna Bro)=Bk0 U V g:=by kernel_rfl
end Tp
end V
end Go.Proofs.YtcfanlgpkefogaaGreat
namespace Go.Proofs.YtcfanlgpkefogaaGreat
open Go.RowKit
namespace V
namespace Tp
open St
theorem Cgq:Bak C05=[C06,C07]:=by kernel_rfl
theorem Cca:keyOf C06=18:=by kernel_rfl
theorem Ccb:keyOf C07=29:=by kernel_rfl
theorem Ckv:Bak (bodyOf Tryz.f3)=[C05,C06,C07]:=by kernel_rfl
theorem D8j:Baw Tryz.prog 3 C05 (Bav Bna Bro (Bcm [.ret,.exit 0] (Bk0 TickV totR) C8c)) :=
 Bmd Cua 7 _ D1d (fun d hd f hf=>by
  rw [Cgq,List.mem_cons,List.mem_singleton] at hd
  rcases hd with rfl | rfl
  ·rw [Cca] at hf
   exact Option.some.inj (show some _=some f from hf) ▸ D8d
  ·rw [Ccb] at hf
   exact Option.some.inj (show some _=some f from hf) ▸ D8e) Bna Bro (fun e=>by cases e <;> exact Nat.le_refl _) [.ret,.exit 0] (Bk0 TickV totR) C8c (Cku TickV totR)
def lfU5:Tree Unit:=.leaf ()
def D8k (U:FTk) (V:FTt) (y:Option (Fq Bro)):Tree Unit:=bif isE .ret y then bif (Bc2 .ret y).1.1 then lfU5 else .fail else bif isE (.exit 0) y then lfU5 else .fail
def C39 (n:Nat):List Bool:=Bba (List.replicate (Int.toNat (n:Int)) false) (Int.toNat 0) true
def Ckw (U:FTk) (V:FTt) (l:List (TCT Bbk)) (tk:Int) (g:TCT cGr) (s t:TCT cSt) (ks:Kns) (sm:SKTs kPt):Tree Unit :=
 bif decide (0≤(l.length:Int)∧(l.length:Int)≤(l.length:Int)∧(l.length:Int)≤65536∧((1:Nat):Int)*(l.length:Int)≤281474976710656) then inO (List.replicate (Int.toNat (l.length:Int)) false).length 0 (D8k U V (iter (Bk0 U V) 40 (Bl8 ⟨l,tk,Bcq g,s,t,ks,sm,C39 l.length⟩ 0))) else .fail
def D1e (U:FTk) (V:FTt) (l:List (TCT Bbk)) (tk:Int) (g:TCT cGr) (s:TCT cSt) (r:TkR):Tree Unit :=
 bif r.2.2.1 != 0 then bif r.2.2.1==4 then lfU5 else .fail else szT g.1 (bif Be0 g (St.etaS r.1)!=0 then .fail else Ckw U V l tk g s r.1 r.2.1 (V g (St.etaS r.1)))
def Ckx (F:FSk) (U:FTk) (V:FTt) (l:List (TCT Bbk)) (tk:Int) (g:TCT cGr) (s:TCT cSt) (b:Bool) (w:TCT cBl):Tree Unit :=
 bif !b then lfU5 else szT g.1 (D1e U V l tk g s (F g s w))
def Cub (G:FGn) (S:FSs) (B:FBb) (W:FBl) (F:FSk) (U:FTk) (V:FTt) (l:List (TCT Bbk)) (w:TCT Bdn) (r tk:Int):Tree Unit :=
 bif (l.length:Int)==0 then lfU5 else bif decide ((l.length:Int)>4) then lfU5 else bif decide (l.length≤1000) then Ckx F U V l tk (Cko (G 0 0 (Int.tmod (W64 r) 951,0,()) l)) (St.etaS (S 0 0 (Int.tmod (W64 r) 951,0,()) l)) (B 0 0 (Int.tmod (W64 r) 951,0,()) l) (D17 (W w 0)) else .fail
end Tp
open Tp
abbrev cs_topConserved:List TC:=[.sl Bbk,Bdn,.i .u16,.i .u8]
noncomputable def Bku (G:FGn) (S:FSs) (B:FBb) (W:FBl) (F:FSk) (U:FTk) (V:FTt):Ctx:=Bh4 Tryz.prog (plTc G S B W F U V) [(3,Tryz.f3)] [((3,15),Bav Bna Bro (Bcm [.ret,.exit 0] (Bk0 U V) C8c))]
noncomputable def X_topConserved:Ctx:=Bku Be8 Bf5 Bfu Beg St.skV St.TickV St.totR
theorem X_topConserved_ok:CtxOk X_topConserved:=Bca Bar puTc (fns_cons is_TopConserved V1) (St.loops_in (fun d hd hk=>by
 rw [Ckv,List.mem_cons,List.mem_cons,List.mem_singleton] at hd
 rcases hd with rfl | rfl | rfl
 ·rfl
 ·rw [Cca] at hk;cases hk
 ·rw [Ccb] at hk;cases hk) D8j)
theorem Cuc (G:FGn) (S:FSs) (B:FBb) (W:FBl) (F:FSk) (U:FTk) (V:FTt) (y:TCTs cs_topConserved):Bcr (Bku G S B W F U V) 10 (.fn 3) (Bdd cs_topConserved y) Bbz 0 C7n=Cub G S B W F U V y.1 y.2.1 y.2.2.1 y.2.2.2.1:=by kernel_rfl
end V
end Go.Proofs.YtcfanlgpkefogaaGreat
namespace Go.Proofs.YtcfanlgpkefogaaGreat
open Go.RowKit
namespace V
namespace Tp
open St
theorem C3a {g:TCT cGr} {s:TCT cSt} (h:StaOk g s):totR g s=Bud (msT s):=by
 unfold totR
 rw [Bqw h]
 rfl
theorem Cud {a b:Bal} (ha:SM a∧a.length≤8) (hb:SM b∧b.length≤8) (h:∀ f:TCT cPt→Int,PartH f→smP f a=smP f b):Cc9 (Bud a) (Bud b)=true:=by
 obtain ⟨a1,a2⟩:=Cey ha.2 ha.1
 obtain ⟨b1,b2⟩:=Cey hb.2 hb.1
 unfold Cc9
 rw [a1,a2,b1,b2,h _ .x,h _ .y,beq_self_eq_true,beq_self_eq_true]
 rfl
theorem Cky {g:TCT cGr} {s:TCT cSt} (h:StaOk g s) (ht:s.2.2.2.2.1≠4000):TickV g s=Bfz 4∨∃ r:S2,tkF (ctS g s) (msT s,osT s,[])=.inl r∧TickV g s=(nxS s r,r.2.2,0,()):=by
 unfold TickV
 rw [Bqw h,cond_false]
 unfold tkV
 cases hf:tkF (ctS g s) (msT s,osT s,[]) with
 | inr e=>exact .inl (by rw [C5q h ht hf];rfl)
 | inl r=>exact .inr ⟨r,rfl,rfl⟩
theorem D8l:C5r (grn 0 0):=fun p=>by
 have key:∀ n:Nat,Bam (Bcb (grn 0 0)) n (Baj Bc5)=(0,0,0,()):=fun n=>by
  cases n with
  | zero=>rfl
  | succ n=>rfl
 unfold Bga
 cases Be9 (grn 0 0) p==0 with
 | false=>exact ⟨rfl,rfl,rfl⟩
 | true=>rw [cond_true,key];exact ⟨rfl,rfl,rfl⟩
theorem Ccc {E:Type} (rt:E) (ex:List Bool→E):∀ (l:Kns) (i:Nat) (h:List Bool),Boi (fun _ x h=>bif nbK x then some (.inr rt) else some (.inl (Bsu h x))) (fun h=>some (ex h)) i l h=some (bif l.any nbK then rt else ex (Blj h l))
 | [],_,_=>rfl
 | x::l,i,h=>by
  simp only [Boi,List.any_cons]
  cases hx:nbK x with
  | true=>rfl
  | false=>simp only [cond_false,Bool.false_or];exact Ccc rt ex l (i+1) (Bsu h x)
theorem D3k {q:QTc} {i:Int} {n:Nat} (hl:q.l.length=n) (hh:q.hit.length=n) (kr:KR n q.ks) (hk:q.ks.length≤129152):iter Bqe (q.ks.length+1) (C08 q i 0)=some (bif q.ks.any nbK then Bl9 true else C09 { q with hit:=Blj q.hit q.ks } i):=by
 have key:=Bec (st:=Bqe) q.ks (fun k h=>C08 { q with hit:=h } i (k:Int)) (fun _ x h=>bif nbK x then some (.inr (Bl9 true)) else some (.inl (Bsu h x))) (fun h=>some (C09 { q with hit:=h } i)) (fun _ h=>h.length=n)
  (fun k h hi hI=>by
   have e1:knT { q with hit:=h } (k:Int)=q.ks[k]:=by unfold knT;exact Bby hi _
   have eK:Bjn q.ks k=q.ks[k]:=Bby hi _
   have hb:∀ {β:Type} (t:Tree β),inN q.ks.length (k:Int) t=t:=fun t=>Bd0 (by omega)
   cases hx:nbK q.ks[k] with
   | true =>
    show (Bnn { q with hit:=h } i (k:Int)).run=_
    unfold Bnn
    rw [e1,decide_eq_true (show (k:Int)<(q.ks.length:Int) by omega),cond_true,hb]
    rw [show (q.ks[k].2.2.1 != 0)=true from hx]
    rfl
   | false =>
    have z:q.ks[k].2.2.1=0:=bne_eq_false_iff_eq.1 hx
    have a:=kr k hi (by rw [eK];exact z)
    rw [eK] at a
    obtain ⟨⟨a1,a2⟩,a3,a4⟩:=a
    have b2:q.ks[k].2.2.2.1<(q.l.length:Int):=by rw [hl];exact a2
    have b4:q.ks[k].2.2.2.2.1<(q.l.length:Int):=by rw [hl];exact a4
    refine ⟨?_,Bvb.trans hI⟩
    show (Bnn { q with hit:=h } i (k:Int)).run=_
    unfold Bnn
    simp only [e1,hb]
    rw [decide_eq_true (show (k:Int)<(q.ks.length:Int) by omega),show (q.ks[k].2.2.1 != 0)=false from hx,decide_eq_false (show ¬ q.ks[k].2.2.2.1<0 from Int.not_lt.2 a1),decide_eq_false (show ¬ q.ks[k].2.2.2.1≥(q.l.length:Int) from Int.not_le.2 b2),decide_eq_false (show ¬ q.ks[k].2.2.2.2.1<0 from Int.not_lt.2 a3),decide_eq_false (show ¬ q.ks[k].2.2.2.2.1≥(q.l.length:Int) from Int.not_le.2 b4),Bb4 (n:=(k:Int)+1) (by omega) (by omega)]
    simp only [cond_true,cond_false]
    rw [Be6 ⟨a1,by rw [hI];exact a2⟩,Be6 ⟨a3,by rw [Bbd,hI];exact a4⟩]
    rfl)
  (fun h e _ he=>by
   cases he
   show (Bnn { q with hit:=h } i (q.ks.length:Int)).run=_
   unfold Bnn
   rw [decide_eq_false (show ¬ (q.ks.length:Int)<(q.ks.length:Int) by omega)]
   rfl)
  q.ks.length 0 q.hit (bif q.ks.any nbK then Bl9 true else C09 { q with hit:=Blj q.hit q.ks } i) (q.ks.length+1) (by omega) (by omega) hh (by rw [List.drop_zero,Ccc])
 exact key
theorem Cgr (m:TCT Bat):Cu9 m m=true:=by unfold Cu9;simp only [beq_self_eq_true,Bool.and_self]
theorem D3l {q:QTc} {i:Int} {n:Nat} (hn:n≤8) (hl:q.l.length=n) (hh:q.hit.length=n) (ht:(q.t.1:Bal).length=n) (hs:(q.s.1:Bal).length=n) (he:∀ k:Nat,Bbs q.hit k=false→Bag q.t.1 k=Bag q.s.1 k):iter Bno (q.l.length+1) (Bqd q i 0)=some (C88 q i):=by
 have key:=Bfx (st:=Bno) (S:=Unit) (B:=Empty) q.l.length (fun k _=>Bqd q i (k:Int)) (fun _ s=>.inl s) (fun _=>C88 q i) (fun _ _=>True)
  (fun k s hi _=>by
   show (Btk q i (k:Int)).run=_
   unfold Btk
   rw [decide_eq_true (show (k:Int)<(q.l.length:Int) by omega),Be6 (by omega),Bd0 (by omega),Bd0 (by omega),Bb4 (n:=(k:Int)+1) (by omega) (by omega),show Int.toNat (k:Int)=k from rfl]
   cases hk:Bam q.hit k (Baj .b) with
   | true=>rfl
   | false =>
    have e:moT q.t (k:Int)=moT q.s (k:Int):=he k hk
    rw [e,Cgr]
    rfl) (fun _ _ _ _ _ _=>trivial) (fun s _=>by
   show (Btk q i (q.l.length:Int)).run=_
   unfold Btk
   rw [decide_eq_false (show ¬ (q.l.length:Int)<(q.l.length:Int) by omega)]
   rfl) q.l.length 0 () (by omega) trivial
 exact key
structure OI (g:TCT cGr) (s0 t0:TCT cSt) (n i:Nat) (q:QTc):Prop where
 el:q.l.length=n
 eg:q.g=Bcq g
 es:q.s=s0
 eu:q.sum=totR g t0
 ec:CI g s0 t0 i q.t q.ks q.hit
theorem D3m {t:Int}:Int.tmod (W64 t) 31≤30:=by
 have:=Int.tmod_lt_of_pos (W64 t) (show (0:Int)<31 by decide)
 omega
theorem Ckz {g:TCT cGr} {s0 t0:TCT cSt} {n i:Nat} {q:QTc} (hs:(g.1.1.size:Int)≤Bb2 .i64) (hl:C5r g.1) (h0:StaOk g s0) (h1:StaOk g t0) (hn:(V2 g).length=n) (hi:i≤30) (o:OI g s0 t0 n i q) (hd:(i:Int)≤Int.tmod (W64 q.tk) 31) :
  (Bk0 TickV totR (Bl8 q (i:Int))).run=some (.inr (Bjz true))∨∃ q',(Bk0 TickV totR (Bl8 q (i:Int))).run=some (.inl (Bl8 q' ((i+1:Nat):Int)))∧q'.tk=q.tk∧OI g s0 t0 n (i+1) q':=by
 obtain ⟨l,tk,qg,qs,t,ks,sum,hit⟩:=q
 obtain ⟨ol,og,os,osum,c⟩:=o
 simp only at ol og os osum c
 subst og
 subst osum
 cases os
 have hn8:=h0.n8
 show (Bqf TickV totR ⟨l,tk,Bcq g,s0,t,ks,totR g t0,hit⟩ (i:Int)).run=_∨∃ q',(Bqf TickV totR ⟨l,tk,Bcq g,s0,t,ks,totR g t0,hit⟩ (i:Int)).run=_∧_∧_
 unfold Bqf
 rw [decide_eq_true hd,cond_true,D3k (q:=⟨l,tk,Bcq g,s0,t,ks,totR g t0,hit⟩) (n:=n) ol (c.hl.trans hn) (hn ▸ c.kr) c.kl]
 cases ha:(ks:Kns).any nbK with
 | true=>exact .inl rfl
 | false =>
  rw [cond_false]
  show (C38 TickV totR ⟨l,tk,Bcq g,s0,t,[],totR g t0,Blj hit ks⟩ (i:Int)).run=_∨∃ q',(C38 TickV totR ⟨l,tk,Bcq g,s0,t,[],totR g t0,Blj hit ks⟩ (i:Int)).run=_∧_∧_
  have e1:C38 TickV totR ⟨l,tk,Bcq g,s0,t,[],totR g t0,Blj hit ks⟩ (i:Int)=Cks ⟨l,tk,Bcq g,s0,t,[],totR g t0,Blj hit ks⟩ (i:Int) (TickV g t):=by
   unfold C38
   rw [show szT (lwG (Bcq g)) _=_ from Bce (l:=g.1) hs]
   show (bif Be0 g t != 0 then _ else bif !Cc9 (totR g t) (totR g t0) then _ else bif ((t.1:Bal).length:Int)!=(l.length:Int) then _ else D1c TickV (iter Bno (l.length+1) (Bqd ⟨l,tk,Bcq g,s0,t,[],totR g t0,Blj hit ks⟩ (i:Int) 0)):C0a)=_
   have hm:(t.1:Bal).length=n:=c.a.m.trans hn
   have hm0:(s0.1:Bal).length=n:=h0.m.trans hn
   rw [Bqw c.a,C3a c.a,C3a h1,Cud (Cah c.a) (Cah h1) (fun f p=>c.d ha f p),hm,ol,bne_self_eq_false]
   simp only [Bool.not_true,cond_false]
   rw [← ol,D3l (q:=⟨l,tk,Bcq g,s0,t,[],Bud (msT t0),Blj hit ks⟩) (n:=n) (by omega) ol ((Bvc _ _).trans (c.hl.trans hn)) hm hm0 (fun k hk=>by
    have hk:Bbs (Blj hit ks) k=false:=hk
    rw [C1r ks hit c.hl (Cr6 c.kr ha),Bool.or_eq_false_iff] at hk
    exact (c.e k hk.1 hk.2).1)]
   show (szT (lwG (Bcq g)) (Cks ⟨l,tk,Bcq g,s0,t,[],Bud (msT t0),Blj hit ks⟩ (i:Int) (TickV g t)):C0a)=_
   rw [show szT (lwG (Bcq g)) _=_ from Bce (l:=g.1) hs]
  rw [e1]
  rcases Cky c.a (by rw [c.tk];exact fun e=>by have e:(i:Int)=4000:=e;omega) with e | ⟨r,hf,e⟩
  ·rw [e];exact .inl rfl
  ·rw [e]
   refine .inr ⟨⟨l,tk,Bcq g,s0,nxS t r,r.2.2,totR g t0,Blj hit ks⟩,?_,rfl,ol,rfl,rfl,rfl,c.tick hl (by omega) ha hf⟩
   show some (Sum.inl (Bl8 ⟨l,tk,Bcq g,s0,nxS t r,r.2.2,totR g t0,Blj hit ks⟩ (W64 ((i:Int)+1))))=_
   rw [Bb4 (n:=(i:Int)+1) (by omega) (by omega)]
   rfl
theorem Cl0 {g:TCT cGr} {s0 t0:TCT cSt} {n:Nat} (hs:(g.1.1.size:Int)≤Bb2 .i64) (hl:C5r g.1) (h0:StaOk g s0) (h1:StaOk g t0) (hn:(V2 g).length=n):∀ (k i m:Nat) (q:QTc),i+k=31→k+1≤m→OI g s0 t0 n i q→∃ y,iter (Bk0 TickV totR) m (Bl8 q (i:Int))=some y∧(y=Bjz true∨y=C89)
 | k,i,0,q,_,hm,_=>by omega
 | k,i,m+1,q,hk,hm,o=>by
  cases hd:decide ((i:Int)≤Int.tmod (W64 q.tk) 31) with
  | false =>
   refine ⟨C89,Bep ?_,.inr rfl⟩
   show (Bqf TickV totR q (i:Int)).run=_
   unfold Bqf
   rw [hd]
   rfl
  | true =>
   have hd':=of_decide_eq_true hd
   have h30:=D3m (t:=q.tk)
   rcases Ckz hs hl h0 h1 hn (by omega) o hd' with e | ⟨q',e,_,o'⟩
   ·exact ⟨_,Bep e,.inl rfl⟩
   ·cases k with
    | zero=>omega
    | succ k =>
     obtain ⟨y,e2,hy⟩:=Cl0 hs hl h0 h1 hn k (i+1) m q' (by omega) (by omega) o'
     exact ⟨y,(Bkt e).trans e2,hy⟩
def bwN (x y p k:Int):TCT cBl:=(0,(x,(bif x==0&&(y==0&&true) then 1 else y),()),p,k,())
theorem Cl1 {x y p k n:Int} (h1 : -32768≤x∧x≤32767) (h2 : -32768≤y∧y≤32767) (h3:1≤p∧p≤2097152) (h4:0≤k∧k≤4) (hn:1≤n):bwB n (bwN x y p k)=false:=by
 unfold bwB bwN
 simp only
 have hf:fpt x (bif x==0&&(y==0&&true) then 1 else y)=true:=by
  cases x==0&&(y==0&&true) <;> exact decide_eq_true (by simp only [cond_true,cond_false];omega)
 have hz:(x==0&&((bif x==0&&(y==0&&true) then 1 else y)==0&&true))=false:=by
  cases hx:x==0 with
  | false=>rfl
  | true =>
   cases hy:y==0 with
   | true=>rfl
   | false=>simp only [Bool.true_and,Bool.false_and,cond_false,hy]
 rw [hf,hz,decide_eq_false (show ¬ (0:Int)<0 by decide),decide_eq_false (show ¬ (0:Int)≥n by omega),decide_eq_false (show ¬ (p<1) by omega),decide_eq_false (show ¬ (p>2097152) by omega),decide_eq_false (show ¬ (k<0) by omega),decide_eq_false (show ¬ (k>4) by omega)]
 rfl
theorem D8m {p:Int} (h3:0≤p∧p≤4294967295):W64 (1+Int.tmod (W64 p) 2097152)=1+p % 2097152:=by
 rw [Bb4 (n:=p) (by omega) (by omega),Int.tmod_eq_emod_of_nonneg h3.1,Bb4 (n:=1+p % 2097152) (by omega) (by omega)]
theorem D8n {k:Int} (h4:0≤k∧k≤255):Int.tmod (W64 k) 5=k % 5:=by
 rw [Bb4 (n:=k) (by omega) (by omega),Int.tmod_eq_emod_of_nonneg h4.1]
theorem C3b (p:Int):1≤1+p % 2097152∧1+p % 2097152≤2097152:=by omega
theorem Dd2 (k:Int):0≤k % 5∧k % 5≤4:=by omega
theorem w16 {x:Int} (h : -32768≤x∧x≤32767):W64 x=x:=Bb4 (by omega) (by omega)
theorem C8d {w:TCT Bdn} (hw:WFD Bdn w):Beg w 0=bwN w.1 w.2.1 (1+w.2.2.1 % 2097152) (w.2.2.2.1 % 5):=by
 unfold Beg bwN
 rw [D8m hw.2.2.1,D8n hw.2.2.2.1,w16 hw.1,w16 hw.2.1]
theorem D3n {w:TCT Bdn} (hw:WFD Bdn w) {n:Int} (hn:1≤n):bwB n (Beg w 0)=false:=by
 rw [C8d hw]
 exact Cl1 hw.1 hw.2.1 (C3b _) (Dd2 _) hn
theorem Cl2 {d s:Int} {x:TCT Bbv} {l:List (TCT Bbk)} (h:Bfu d s x l=true):∃ ps,Bn6 d s l=.inl ps∧(Beq (gN d s x ps.length) ps).2.1=0∧(msT (Beq (gN d s x ps.length) ps).1).length=l.length:=by
 unfold Bfu at h
 cases ho:Bn6 d s l with
 | inr ps=>rw [ho] at h;cases h
 | inl ps =>
  rw [ho] at h
  have h:Ckg l (Beq (gN d s x ps.length) ps)=true:=h
  unfold Ckg at h
  rw [Bool.and_eq_true,Bool.and_eq_true] at h
  refine ⟨ps,rfl,beq_iff_eq.1 h.1,?_⟩
  have:=beq_iff_eq.1 h.2.1
  omega
theorem Cl3 {d s:Int} {x:TCT Bbv} {l:List (TCT Bbk)} (h:Bfu d s x l=true):StaOk (Be8 d s x l) (Bf5 d s x l)∧Bcc (Bf5 d s x l)=true∧(∀ j:Nat,Bbs (osT (Bf5 d s x l)) j=false)∧(V2 (Be8 d s x l)).length=l.length∧(Be8 d s x l).1=grn d s:=by
 obtain ⟨ps,ho,he,hm⟩:=Cl2 h
 obtain ⟨a,b,c,e⟩:=D70 he
 unfold Be8 Bf5
 rw [ho]
 exact ⟨a,b,c,a.m.symm.trans hm,rfl⟩
theorem D3o {l:List (TCT Bbk)} {w:TCT Bdn} {tk:Int} (x:TCT Bbv) (hw:WFD Bdn w) (h0:(l.length:Int)≠0) (h4:¬ (l.length:Int)>4):(Ckx skV TickV totR l tk (Be8 0 0 x l) (Bf5 0 0 x l) (Bfu 0 0 x l) (Beg w 0)).sat (fun _=>True):=by
 unfold Ckx
 cases hb:Bfu 0 0 x l with
 | false=>exact trivial
 | true =>
  obtain ⟨hS,hst,hout,hlen,hgr⟩:=Cl3 hb
  have hf:C5r (Be8 0 0 x l).1:=by rw [hgr];exact D8l
  have hs:((Be8 0 0 x l).1.1.size:Int)≤Bb2 .i64:=by rw [hgr];exact Bol 0 0
  generalize Be8 0 0 x l=g at *
  generalize Bf5 0 0 x l=s at *
  rw [Bool.not_true,cond_false,Bce hs]
  have hbw:bwB ((V2 g).length:Int) (Beg w 0)=false:=D3n hw (by omega)
  have k:SkOk g s (Beg w 0):=⟨hS,Cea hbw,hst,hout _⟩
  unfold D1e
  cases he:(skV g s (Beg w 0)).2.2.1 != 0 with
  | true =>
   rw [Cr3 k hbw (bne_iff_ne.1 he)]
   exact trivial
  | false =>
   have he':=bne_eq_false_iff_eq.1 he
   obtain ⟨t1,_⟩:=Cab he'
   rw [cond_false,Bce hs]
   show Tree.sat _ (bif Be0 g (skV g s (Beg w 0)).1 != 0 then .fail else Ckw TickV totR l tk g s (skV g s (Beg w 0)).1 (skV g s (Beg w 0)).2.1 (totR g (skV g s (Beg w 0)).1))
   rw [Bqw t1,cond_false]
   unfold Ckw
   rw [decide_eq_true (by omega),cond_true,Be6 (by rw [List.length_replicate];omega)]
   have hh:(C39 l.length).length=(V2 g).length:=by
    unfold C39
    rw [Bbd,List.length_replicate,hlen];omega
   have hz:Bbs (C39 l.length) (Int.toNat (Beg w 0).1)=true:=by
    show Bbs (C39 l.length) 0=true
    unfold C39
    rw [Bjo (by rw [List.length_replicate];omega),show decide (0=Int.toNat 0)=true from rfl,Bool.or_true]
   have ci:=CI.zero (w:=Beg w 0) he' hh hz
   obtain ⟨y,e,hy⟩:=Cl0 (n:=l.length) hs hf hS t1 hlen 31 0 40 ⟨l,tk,Bcq g,s,(skV g s (Beg w 0)).1,(skV g s (Beg w 0)).2.1,totR g (skV g s (Beg w 0)).1,C39 l.length⟩ (by omega) (by omega) ⟨rfl,rfl,rfl,rfl,ci⟩
   rw [show iter (Bk0 TickV totR) 40 (Bl8 ⟨l,tk,Bcq g,s,(skV g s (Beg w 0)).1,(skV g s (Beg w 0)).2.1,totR g (skV g s (Beg w 0)).1,C39 l.length⟩ 0)=some y from e]
   rcases hy with rfl | rfl
   ·exact trivial
   ·exact trivial
theorem D3p {l:List (TCT Bbk)} {w:TCT Bdn} {r tk:Int} (hw:WFD Bdn w):(Cub Be8 Bf5 Bfu Beg skV TickV totR l w r tk).sat (fun _=>True):=by
 unfold Cub
 cases c0:(l.length:Int)==0 with
 | true=>exact trivial
 | false =>
  cases c4:decide ((l.length:Int)>4) with
  | true=>exact trivial
  | false =>
   have h4:=of_decide_eq_false c4
   have h0:(l.length:Int)≠0:=fun e=>by rw [e] at c0;cases c0
   rw [cond_false,cond_false,decide_eq_true (show l.length≤1000 by omega),cond_true]
   exact D3o _ hw h0 h4
end Tp
open Tp
theorem topConserved_sat:LawSat X_topConserved 3 cs_topConserved 10:=Ct8 10 (fun y=>Cub Be8 Bf5 Bfu Beg St.skV St.TickV St.totR y.1 y.2.1 y.2.2.1 y.2.2.2.1) (Cuc Be8 Bf5 Bfu Beg St.skV St.TickV St.totR) fun _ hw=>D3p hw.2.1
end V
end Go.Proofs.YtcfanlgpkefogaaGreat
