import Derived.Test.YtcfanlgpkefogaaGreatAg
import Derived.Test.YtcfanlgpkefogaaGreatNd
import Derived.Test.YtcfanlgpkefogaaGreatFo
import Derived.Test.YtcfanlgpkefogaaGreatRows
import Derived.Test.YtcfanlgpkefogaaGreatVC
import Derived.WalkKit
import Derived.ProofKit
import Derived.OpenShut
namespace Go.Proofs.YtcfanlgpkefogaaGreat
open Go.RowKit
namespace V
namespace Tp
open St
theorem is_TopConserved:FnIs Tryz.prog (3,Tryz.f3):=⟨Tryz.func3,by kernel_rfl,by kernel_rfl⟩
noncomputable def plTc (G:FGn) (S:FSs) (B:FBb) (W:FBl) (F:FSk) (U:FTk) (V:FTt):List (Nat×PureT):=(10,Add G S B)::(12,Ade W)::(11,B6q F)::(14,B6r U)::(13,B6s V)::(9,Sr)::[]
theorem puTc:Db Tryz.prog (plTc Gr Hw If Fx skV TickV totR):=puOk_cons is_set.plain Aq0 (puOk_cons is_blow.plain Aq1 (puOk_cons is_sStrike.plain A3x (puOk_cons is_sTick.plain Ajc (puOk_cons is_sTotal.plain A9m (puOk_cons is_works05.plain Pp puOk_nil)))))
abbrev cU8:TC:=.i .u8
abbrev Azw:List BK:=[(1,41,kGr),(2,45,kSt),(12,45,kSt),(16,31,kPt)]
def Qp:Lay:={ keys:=[0,3,9,10,12,13,15,16,17],ks:=[.d (.sl D6),.d cU8,.p 1 0 0 0,.p 2 0 0 0,.p 12 0 0 0,.d (.sl cKn),.p 16 0 0 0,.o 4 .b,.d cI],bs:=Azw,n:=201,nx:=1000,marks:=[] }
def Wh:Lay:={ keys:=[0,3,9,10,12,13,15,16,17,18],ks:=[.d (.sl D6),.d cU8,.p 1 0 0 0,.p 2 0 0 0,.p 12 0 0 0,.d (.sl cKn),.p 16 0 0 0,.o 4 .b,.d cI,.d cI],bs:=Azw,n:=201,nx:=3000,marks:=[] }
def Wi:Lay:={ keys:=[0,3,9,10,12,15,16,17,21],ks:=[.d (.sl D6),.d cU8,.p 1 0 0 0,.p 2 0 0 0,.p 12 0 0 0,.p 16 0 0 0,.o 4 .b,.d cI,.d cI],bs:=Azw,n:=201,nx:=5000,marks:=[] }
def B6t (nx:Nat):Lay:={ keys:=[0,3,9,10,12,15,16,17],ks:=[.d (.sl D6),.d cU8,.p 1 0 0 0,.p 2 0 0 0,.p 12 0 0 0,.p 16 0 0 0,.o 4 .b,.d cI],bs:=Azw,n:=201,nx:=nx,marks:=[] }
def Aq2 (nx:Nat):Lay:={ keys:=[8],ks:=[.d .b],bs:=[],n:=201,nx:=nx,marks:=[] }
def Be8:Lay:={ keys:=[],ks:=[],bs:=[],n:=201,nx:=1000,marks:=[] }
def Wj:XE→Lay:=fun e=>match e with | .ret=>Aq2 1000 | _=>Be8
def Ss:XE→Lay:=fun e=>match e with | .ret=>Aq2 3000 | _=>B6t 3000
def Su:XE→Lay:=fun e=>match e with | .ret=>Aq2 5000 | _=>B6t 5000
noncomputable def A58:Code:=(As (bodyOf Tryz.f3)).getD 0 .skip
noncomputable def A59:Code:=(As (bodyOf Tryz.f3)).getD 1 .skip
noncomputable def A5a:Code:=(As (bodyOf Tryz.f3)).getD 2 .skip
noncomputable def plW5:List (Nat×PureT):=[(9,Sr)]
theorem puW5:Db Tryz.prog plW5:=puOk_cons is_works05.plain Pp puOk_nil
noncomputable def Be9:Ctx:=ctx Tryz.prog plW5 []
theorem A87:CtxOk Be9:=B5 Aw puW5 A0
structure QTc where
 l:List (TCT D6)
 tk:Int
 g:SKTs kGr
 s:SKTs kSt
 t:SKTs kSt
 ks:Kns
 sum:SKTs kPt
 hit:List Bool
def Oh (q:QTc) (i:Int):Qp.T:=((q.l,q.tk,(),(),(),q.ks,(),q.hit,i,()),(q.g,q.s,q.t,q.sum,()))
def A5b (q:QTc) (i k:Int):Wh.T:=((q.l,q.tk,(),(),(),q.ks,(),q.hit,i,k,()),(q.g,q.s,q.t,q.sum,()))
def V3 (q:QTc) (i k:Int):Wi.T:=((q.l,q.tk,(),(),(),(),q.hit,i,k,()),(q.g,q.s,q.t,q.sum,()))
def A5c (q:QTc) (i:Int):A1 Ss:=⟨.exit 2,((q.l,q.tk,(),(),(),(),q.hit,i,()),(q.g,q.s,q.t,q.sum,()))⟩
def Adf (q:QTc) (i:Int):A1 Su:=⟨.exit 4,((q.l,q.tk,(),(),(),(),q.hit,i,()),(q.g,q.s,q.t,q.sum,()))⟩
def Oi (b:Bool):A1 Ss:=⟨.ret,((b,()),())⟩
def B96 (b:Bool):A1 Su:=⟨.ret,((b,()),())⟩
def Ms (b:Bool):A1 Wj:=⟨.ret,((b,()),())⟩
def Adg:A1 Wj:=⟨.exit 0,((),())⟩
def knT (q:QTc) (k:Int):TCT cKn:=Bc q.ks (Int.toNat k) (B7 cKn)
def Rc (q:QTc) (i k:Int):Tree (Wh.T⊕A1 Ss):=bif decide (k<(q.ks.length:Int)) then inN q.ks.length k (bif (knT q k).2.2.1 != 0 then .leaf (.inr (Oi true)) else
 inN q.ks.length k (bif decide ((knT q k).2.2.2.1<0) then .leaf (.inr (Oi false)) else inN q.ks.length k (bif decide ((knT q k).2.2.2.1≥(q.l.length:Int)) then .leaf (.inr (Oi false)) else
 inN q.ks.length k (bif decide ((knT q k).2.2.2.2.1<0) then .leaf (.inr (Oi false)) else inN q.ks.length k (bif decide ((knT q k).2.2.2.2.1≥(q.l.length:Int)) then .leaf (.inr (Oi false)) else
 inN q.ks.length k (inN q.ks.length k (inO q.hit.length (knT q k).2.2.2.1 (inO (Bu q.hit (Int.toNat (knT q k).2.2.2.1) true).length (knT q k).2.2.2.2.1 (.leaf (.inl (A5b { q with hit:=Xm q.hit (knT q k) } i (W64 (k+1))))))))))))) else .leaf (.inr (A5c q i))
def V4 (x:Wh.T):Tree (Wh.T⊕A1 Ss):=Rc ⟨x.1.1,x.1.2.1,x.2.1,x.2.2.1,x.2.2.2.1,x.1.2.2.2.2.2.1,x.2.2.2.2.1,x.1.2.2.2.2.2.2.2.1⟩ x.1.2.2.2.2.2.2.2.2.1 x.1.2.2.2.2.2.2.2.2.2.1
def Adh (x:Wh.T):Nat:=(x.1.2.2.2.2.2.1:Kns).length+1
theorem Bea:Bb Tryz.prog 3 A59 (B8 Wh Ss (Dy [.ret,.exit 2] V4 Adh)):=Br A87 7 _ Wh Ss (fun e=>by cases e <;> exact Nat.le_refl _) [.ret,.exit 2] V4 Adh (fun g=>by kernel_rfl)
def Azx (a b:TCT Bd):Bool:=(a.1.1==b.1.1&&(a.1.2.1==b.1.2.1&&true))&&((a.2.1.1==b.2.1.1&&(a.2.1.2.1==b.2.1.2.1&&true))&&((a.2.2.1.1==b.2.2.1.1&&(a.2.2.1.2.1==b.2.2.1.2.1&&true))&&true))
def moT (s:SKTs kSt) (k:Int):TCT Bd:=Bc (s.1:Ax) (Int.toNat k) (B7 Bd)
def Yt (q:QTc) (i k:Int):Tree (Wi.T⊕A1 Su):=bif decide (k<(q.l.length:Int)) then inO q.hit.length k (bif !Bc q.hit (Int.toNat k) (B7 .b) then inN (q.t.1:Ax).length k (inN (q.s.1:Ax).length k (bif !Azx (moT q.t k) (moT q.s k) then .leaf (.inr (B96 false)) else .leaf (.inl (V3 q i (W64 (k+1)))))) else .leaf (.inl (V3 q i (W64 (k+1))))) else .leaf (.inr (Adf q i))
def Re (x:Wi.T):Tree (Wi.T⊕A1 Su):=Yt ⟨x.1.1,x.1.2.1,x.2.1,x.2.2.1,x.2.2.2.1,[],x.2.2.2.2.1,x.1.2.2.2.2.2.2.1⟩ x.1.2.2.2.2.2.2.2.1 x.1.2.2.2.2.2.2.2.2.1
def Adi (x:Wi.T):Nat:=(x.1.1:List (TCT D6)).length+1
theorem Beb:Bb Tryz.prog 3 A5a (B8 Wi Su (Dy [.ret,.exit 4] Re Adi)):=Br A87 7 _ Wi Su (fun e=>by cases e <;> exact Nat.le_refl _) [.ret,.exit 4] Re Adi (fun g=>by kernel_rfl)
def Ahk (a b:SKTs kPt):Bool:=a.1==b.1&&(a.2.1==b.2.1&&true)
abbrev A5d:=Tree (Qp.T⊕A1 Wj)
def Aq3 (q:QTc) (i:Int) (r:TkR):A5d:=bif r.2.2.1 != 0 then bif r.2.2.1==4 then .leaf (.inr (Ms true)) else .leaf (.inr (Ms false)) else .leaf (.inl (Oh { q with t:=r.1,ks:=r.2.1 } (W64 (i+1))))
def Bec (U:FTk) (q:QTc) (i:Int):A5d:=szT (lwG q.g) (Aq3 q i (U (A2s q.g) q.t))
def Bed (v:(Su (.exit 4)).T):QTc:=⟨v.1.1,v.1.2.1,v.2.1,v.2.2.1,v.2.2.2.1,[],v.2.2.2.2.1,v.1.2.2.2.2.2.2.1⟩
def B6u (U:FTk) (y:Option (A1 Su)):A5d:=bif isE .ret y then .leaf (.inr (Ms (D4 .ret y).1.1)) else bif isE (.exit 4) y then Bec U (Bed (D4 (.exit 4) y)) (D4 (.exit 4) y).1.2.2.2.2.2.2.2.1 else .fail
def A88 (U:FTk) (V:FTt) (q:QTc) (i:Int):A5d:=szT (lwG q.g) (bif Fp (A2s q.g) q.t != 0 then .leaf (.inr (Ms false)) else bif !Ahk (V (A2s q.g) q.t) q.sum then .leaf (.inr (Ms false)) else bif ((q.t.1:Ax).length:Int)!=(q.l.length:Int) then .leaf (.inr (Ms false)) else
 B6u U (iter Re (q.l.length+1) (V3 q i 0)))
def Bee (v:(Ss (.exit 2)).T):QTc:=⟨v.1.1,v.1.2.1,v.2.1,v.2.2.1,v.2.2.2.1,[],v.2.2.2.2.1,v.1.2.2.2.2.2.2.1⟩
def Beg (U:FTk) (V:FTt) (y:Option (A1 Ss)):A5d:=bif isE .ret y then .leaf (.inr (Ms (D4 .ret y).1.1)) else bif isE (.exit 2) y then A88 U V (Bee (D4 (.exit 2) y)) (D4 (.exit 2) y).1.2.2.2.2.2.2.2.1 else .fail
def V5 (U:FTk) (V:FTt) (q:QTc) (i:Int):A5d:=bif decide (i≤Int.tmod (W64 q.tk) 31) then Beg U V (iter V4 (q.ks.length+1) (A5b q i 0)) else .leaf (.inr Adg)
def Mt (U:FTk) (V:FTt) (x:Qp.T):A5d:=V5 U V ⟨x.1.1,x.1.2.1,x.2.1,x.2.2.1,x.2.2.2.1,x.1.2.2.2.2.2.1,x.2.2.2.2.1,x.1.2.2.2.2.2.2.2.1⟩ x.1.2.2.2.2.2.2.2.2.1
def Adj (_:Qp.T):Nat:=40
noncomputable def plTu (U:FTk) (V:FTt):List (Nat×PureT):=[(14,B6r U),(13,B6s V),(9,Sr)]
theorem puTu:Db Tryz.prog (plTu TickV totR):=puOk_cons is_sTick.plain Ajc (puOk_cons is_sTotal.plain A9m (puOk_cons is_works05.plain Pp puOk_nil))
noncomputable def Aq4 (U:FTk) (V:FTt):Ctx:=ctx Tryz.prog (plTu U V) []
theorem Azy:CtxOk (Aq4 TickV totR):=B5 Aw puTu A0
noncomputable def B6v:Ld:=D8 [((3,18),B8 Wh Ss (Dy [.ret,.exit 2] V4 Adh)),((3,29),B8 Wi Su (Dy [.ret,.exit 4] Re Adi))] 3
theorem Aq5 (U:FTk) (V:FTt) (g:Qp.T):evC (Aq4 U V).P (Dx (Aq4 U V) 7) (Aq4 U V).pures 3 (Aq4 U V).u B6v A58 (Qp.of g) (Gl Qp Wj)=Mt U V g:=by kernel_rfl
end Tp
end V
end Go.Proofs.YtcfanlgpkefogaaGreat
namespace Go.Proofs.YtcfanlgpkefogaaGreat
open Go.RowKit
namespace V
namespace Tp
open St
theorem Aly:As A58=[A59,A5a]:=by kernel_rfl
theorem Ahl:keyOf A59=18:=by kernel_rfl
theorem Ahm:keyOf A5a=29:=by kernel_rfl
theorem Aq6:As (bodyOf Tryz.f3)=[A58,A59,A5a]:=by kernel_rfl
theorem Beh:Bb Tryz.prog 3 A58 (B8 Qp Wj (Dy [.ret,.exit 0] (Mt TickV totR) Adj)) :=
 Ux Azy 7 _ B6v (fun d hd f hf=>by
  rw [Aly,List.mem_cons,List.mem_singleton] at hd
  rcases hd with rfl | rfl
  ·rw [Ahl] at hf
   exact Option.some.inj (show some _=some f from hf) ▸ Bea
  ·rw [Ahm] at hf
   exact Option.some.inj (show some _=some f from hf) ▸ Beb) Qp Wj (fun e=>by cases e <;> exact Nat.le_refl _) [.ret,.exit 0] (Mt TickV totR) Adj (Aq5 TickV totR)
def Rf:Tree Unit:=.leaf ()
def Bei (U:FTk) (V:FTt) (y:Option (A1 Wj)):Tree Unit:=bif isE .ret y then bif (D4 .ret y).1.1 then Rf else .fail else bif isE (.exit 0) y then Rf else .fail
def A89 (n:Nat):List Bool:=Bu (List.replicate (Int.toNat (n:Int)) false) (Int.toNat 0) true
def Aq7 (U:FTk) (V:FTt) (l:List (TCT D6)) (tk:Int) (g:TCT cGr) (s t:TCT cSt) (ks:Kns) (sm:SKTs kPt):Tree Unit :=
 bif decide (0≤(l.length:Int)∧(l.length:Int)≤(l.length:Int)∧(l.length:Int)≤65536∧((1:Nat):Int)*(l.length:Int)≤281474976710656) then inO (List.replicate (Int.toNat (l.length:Int)) false).length 0 (Bei U V (iter (Mt U V) 40 (Oh ⟨l,tk,E5 g,s,t,ks,sm,A89 l.length⟩ 0))) else .fail
def B6w (U:FTk) (V:FTt) (l:List (TCT D6)) (tk:Int) (g:TCT cGr) (s:TCT cSt) (r:TkR):Tree Unit :=
 bif r.2.2.1 != 0 then bif r.2.2.1==4 then Rf else .fail else szT g.1 (bif Fp g (St.etaS r.1)!=0 then .fail else Aq7 U V l tk g s r.1 r.2.1 (V g (St.etaS r.1)))
def Aq8 (F:FSk) (U:FTk) (V:FTt) (l:List (TCT D6)) (tk:Int) (g:TCT cGr) (s:TCT cSt) (b:Bool) (w:TCT cBl):Tree Unit :=
 bif !b then Rf else szT g.1 (B6w U V l tk g s (F g s w))
def Azz (G:FGn) (S:FSs) (B:FBb) (W:FBl) (F:FSk) (U:FTk) (V:FTt) (l:List (TCT D6)) (w:TCT Ku) (r tk:Int):Tree Unit :=
 bif (l.length:Int)==0 then Rf else bif decide ((l.length:Int)>4) then Rf else bif decide (l.length≤1000) then Aq8 F U V l tk (Apy (G 0 0 (Int.tmod (W64 r) 951,0,()) l)) (St.etaS (S 0 0 (Int.tmod (W64 r) 951,0,()) l)) (B 0 0 (Int.tmod (W64 r) 951,0,()) l) (Apz (W w 0)) else .fail
end Tp
open Tp
abbrev cs_topConserved:List TC:=[.sl D6,Ku,.i .u16,.i .u8]
noncomputable def Ny (G:FGn) (S:FSs) (B:FBb) (W:FBl) (F:FSk) (U:FTk) (V:FTt):Ctx:=I7 Tryz.prog (plTc G S B W F U V) [(3,Tryz.f3)] [((3,15),B8 Qp Wj (Dy [.ret,.exit 0] (Mt U V) Adj))]
noncomputable def X_topConserved:Ctx:=Ny Gr Hw If Fx St.skV St.TickV St.totR
theorem X_topConserved_ok:CtxOk X_topConserved:=Cp Aw puTc (fns_cons is_TopConserved A0) (St.loops_in (fun d hd hk=>by
 rw [Aq6,List.mem_cons,List.mem_cons,List.mem_singleton] at hd
 rcases hd with rfl | rfl | rfl
 ·rfl
 ·rw [Ahl] at hk;cases hk
 ·rw [Ahm] at hk;cases hk) Beh)
theorem B00 (G:FGn) (S:FSs) (B:FBb) (W:FBl) (F:FSk) (U:FTk) (V:FTt) (y:TCTs cs_topConserved):Dx (Ny G S B W F U V) 10 (.fn 3) (E7 cs_topConserved y) Ce 0 Ack=Azz G S B W F U V y.1 y.2.1 y.2.2.1 y.2.2.2.1:=by kernel_rfl
end V
end Go.Proofs.YtcfanlgpkefogaaGreat
namespace Go.Proofs.YtcfanlgpkefogaaGreat
open Go.RowKit
namespace V
namespace Tp
open St
theorem A8a {g:TCT cGr} {s:TCT cSt} (h:StaOk g s):totR g s=Zg (msT s):=by
 unfold totR
 rw [Vm h]
 rfl
theorem B01 {a b:Ax} (ha:SM a∧a.length≤8) (hb:SM b∧b.length≤8) (h:∀ f:TCT cPt→Int,PartH f→smP f a=smP f b):Ahk (Zg a) (Zg b)=true:=by
 obtain ⟨a1,a2⟩:=Ak1 ha.2 ha.1
 obtain ⟨b1,b2⟩:=Ak1 hb.2 hb.1
 unfold Ahk
 rw [a1,a2,b1,b2,h _ .x,h _ .y,beq_self_eq_true,beq_self_eq_true]
 rfl
theorem Aq9 {g:TCT cGr} {s:TCT cSt} (h:StaOk g s) (ht:s.2.2.2.2.1≠4000):TickV g s=I1 4∨∃ r:S2,tkF (ctS g s) (msT s,osT s,[])=.inl r∧TickV g s=(nxS s r,r.2.2,0,()):=by
 unfold TickV
 rw [Vm h,cond_false]
 unfold tkV
 cases hf:tkF (ctS g s) (msT s,osT s,[]) with
 | inr e=>exact .inl (by rw [Aan h ht hf];rfl)
 | inl r=>exact .inr ⟨r,rfl,rfl⟩
theorem Bej:Aao (grn 0 0):=fun p=>by
 have key:∀ n:Nat,Bc (Dl (grn 0 0)) n (B7 De)=(0,0,0,()):=fun n=>by
  cases n with
  | zero=>rfl
  | succ n=>rfl
 unfold La
 cases G5 (grn 0 0) p==0 with
 | false=>exact ⟨rfl,rfl,rfl⟩
 | true=>rw [cond_true,key];exact ⟨rfl,rfl,rfl⟩
theorem Ahn {E:Type} (rt:E) (ex:List Bool→E):∀ (l:Kns) (i:Nat) (h:List Bool),So (fun _ x h=>bif nbK x then some (.inr rt) else some (.inl (Xm h x))) (fun h=>some (ex h)) i l h=some (bif l.any nbK then rt else ex (Oq h l))
 | [],_,_=>rfl
 | x::l,i,h=>by
  simp only [So,List.any_cons]
  cases hx:nbK x with
  | true=>rfl
  | false=>simp only [cond_false,Bool.false_or];exact Ahn rt ex l (i+1) (Xm h x)
theorem B97 {q:QTc} {i:Int} {n:Nat} (hl:q.l.length=n) (hh:q.hit.length=n) (kr:KR n q.ks) (hk:q.ks.length≤129152):iter V4 (q.ks.length+1) (A5b q i 0)=some (bif q.ks.any nbK then Oi true else A5c { q with hit:=Oq q.hit q.ks } i):=by
 have key:=G2 (st:=V4) q.ks (fun k h=>A5b { q with hit:=h } i (k:Int)) (fun _ x h=>bif nbK x then some (.inr (Oi true)) else some (.inl (Xm h x))) (fun h=>some (A5c { q with hit:=h } i)) (fun _ h=>h.length=n)
  (fun k h hi hI=>by
   have e1:knT { q with hit:=h } (k:Int)=q.ks[k]:=by unfold knT;exact Ed hi _
   have eK:Mb q.ks k=q.ks[k]:=Ed hi _
   have hb:∀ {β:Type} (t:Tree β),inN q.ks.length (k:Int) t=t:=fun t=>Dd (by omega)
   cases hx:nbK q.ks[k] with
   | true =>
    show (Rc { q with hit:=h } i (k:Int)).run=_
    unfold Rc
    rw [e1,decide_eq_true (show (k:Int)<(q.ks.length:Int) by omega),cond_true,hb]
    rw [show (q.ks[k].2.2.1 != 0)=true from hx]
    rfl
   | false =>
    have z:q.ks[k].2.2.1=0:=bne_eq_false_iff_eq.1 hx
    have a:=kr k hi (by rw [eK];exact z)
    rw [eK] at a
    obtain ⟨⟨a1,a2⟩,a3,a4⟩:=a
    have b2:q.ks[k].2.2.2.1<(q.l.length:Int):=by rw [hl];exact a2
    have b4:q.ks[k].2.2.2.2.1<(q.l.length:Int):=by rw [hl];exact a4
    refine ⟨?_,A06.trans hI⟩
    show (Rc { q with hit:=h } i (k:Int)).run=_
    unfold Rc
    simp only [e1,hb]
    rw [decide_eq_true (show (k:Int)<(q.ks.length:Int) by omega),show (q.ks[k].2.2.1 != 0)=false from hx,decide_eq_false (show ¬ q.ks[k].2.2.2.1<0 from Int.not_lt.2 a1),decide_eq_false (show ¬ q.ks[k].2.2.2.1≥(q.l.length:Int) from Int.not_le.2 b2),decide_eq_false (show ¬ q.ks[k].2.2.2.2.1<0 from Int.not_lt.2 a3),decide_eq_false (show ¬ q.ks[k].2.2.2.2.1≥(q.l.length:Int) from Int.not_le.2 b4),Bi (n:=(k:Int)+1) (by omega) (by omega)]
    simp only [cond_true,cond_false]
    rw [G4 ⟨a1,by rw [hI];exact a2⟩,G4 ⟨a3,by rw [Bw,hI];exact a4⟩]
    rfl)
  (fun h e _ he=>by
   cases he
   show (Rc { q with hit:=h } i (q.ks.length:Int)).run=_
   unfold Rc
   rw [decide_eq_false (show ¬ (q.ks.length:Int)<(q.ks.length:Int) by omega)]
   rfl)
  q.ks.length 0 q.hit (bif q.ks.any nbK then Oi true else A5c { q with hit:=Oq q.hit q.ks } i) (q.ks.length+1) (by omega) (by omega) hh (by rw [List.drop_zero,Ahn])
 exact key
theorem Alz (m:TCT Bd):Azx m m=true:=by unfold Azx;simp only [beq_self_eq_true,Bool.and_self]
theorem B98 {q:QTc} {i:Int} {n:Nat} (hn:n≤8) (hl:q.l.length=n) (hh:q.hit.length=n) (ht:(q.t.1:Ax).length=n) (hs:(q.s.1:Ax).length=n) (he:∀ k:Nat,Ci q.hit k=false→A8 q.t.1 k=A8 q.s.1 k):iter Re (q.l.length+1) (V3 q i 0)=some (Adf q i):=by
 have key:=Hz (st:=Re) (S:=Unit) (B:=Empty) q.l.length (fun k _=>V3 q i (k:Int)) (fun _ s=>.inl s) (fun _=>Adf q i) (fun _ _=>True)
  (fun k s hi _=>by
   show (Yt q i (k:Int)).run=_
   unfold Yt
   rw [decide_eq_true (show (k:Int)<(q.l.length:Int) by omega),G4 (by omega),Dd (by omega),Dd (by omega),Bi (n:=(k:Int)+1) (by omega) (by omega),show Int.toNat (k:Int)=k from rfl]
   cases hk:Bc q.hit k (B7 .b) with
   | true=>rfl
   | false =>
    have e:moT q.t (k:Int)=moT q.s (k:Int):=he k hk
    rw [e,Alz]
    rfl) (fun _ _ _ _ _ _=>trivial) (fun s _=>by
   show (Yt q i (q.l.length:Int)).run=_
   unfold Yt
   rw [decide_eq_false (show ¬ (q.l.length:Int)<(q.l.length:Int) by omega)]
   rfl) q.l.length 0 () (by omega) trivial
 exact key
structure OI (g:TCT cGr) (s0 t0:TCT cSt) (n i:Nat) (q:QTc):Prop where
 el:q.l.length=n
 eg:q.g=E5 g
 es:q.s=s0
 eu:q.sum=totR g t0
 ec:CI g s0 t0 i q.t q.ks q.hit
theorem B99 {t:Int}:Int.tmod (W64 t) 31≤30:=by
 have:=Int.tmod_lt_of_pos (W64 t) (show (0:Int)<31 by decide)
 omega
theorem Aqa {g:TCT cGr} {s0 t0:TCT cSt} {n i:Nat} {q:QTc} (hs:(g.1.1.size:Int)≤Bl .i64) (hl:Aao g.1) (h0:StaOk g s0) (h1:StaOk g t0) (hn:(A4 g).length=n) (hi:i≤30) (o:OI g s0 t0 n i q) (hd:(i:Int)≤Int.tmod (W64 q.tk) 31) :
  (Mt TickV totR (Oh q (i:Int))).run=some (.inr (Ms true))∨∃ q',(Mt TickV totR (Oh q (i:Int))).run=some (.inl (Oh q' ((i+1:Nat):Int)))∧q'.tk=q.tk∧OI g s0 t0 n (i+1) q':=by
 obtain ⟨l,tk,qg,qs,t,ks,sum,hit⟩:=q
 obtain ⟨ol,og,os,osum,c⟩:=o
 simp only at ol og os osum c
 subst og
 subst osum
 cases os
 have hn8:=h0.n8
 show (V5 TickV totR ⟨l,tk,E5 g,s0,t,ks,totR g t0,hit⟩ (i:Int)).run=_∨∃ q',(V5 TickV totR ⟨l,tk,E5 g,s0,t,ks,totR g t0,hit⟩ (i:Int)).run=_∧_∧_
 unfold V5
 rw [decide_eq_true hd,cond_true,B97 (q:=⟨l,tk,E5 g,s0,t,ks,totR g t0,hit⟩) (n:=n) ol (c.hl.trans hn) (hn ▸ c.kr) c.kl]
 cases ha:(ks:Kns).any nbK with
 | true=>exact .inl rfl
 | false =>
  rw [cond_false]
  show (A88 TickV totR ⟨l,tk,E5 g,s0,t,[],totR g t0,Oq hit ks⟩ (i:Int)).run=_∨∃ q',(A88 TickV totR ⟨l,tk,E5 g,s0,t,[],totR g t0,Oq hit ks⟩ (i:Int)).run=_∧_∧_
  have e1:A88 TickV totR ⟨l,tk,E5 g,s0,t,[],totR g t0,Oq hit ks⟩ (i:Int)=Aq3 ⟨l,tk,E5 g,s0,t,[],totR g t0,Oq hit ks⟩ (i:Int) (TickV g t):=by
   unfold A88
   rw [show szT (lwG (E5 g)) _=_ from Dg (l:=g.1) hs]
   show (bif Fp g t != 0 then _ else bif !Ahk (totR g t) (totR g t0) then _ else bif ((t.1:Ax).length:Int)!=(l.length:Int) then _ else B6u TickV (iter Re (l.length+1) (V3 ⟨l,tk,E5 g,s0,t,[],totR g t0,Oq hit ks⟩ (i:Int) 0)):A5d)=_
   have hm:(t.1:Ax).length=n:=c.a.m.trans hn
   have hm0:(s0.1:Ax).length=n:=h0.m.trans hn
   rw [Vm c.a,A8a c.a,A8a h1,B01 (Af8 c.a) (Af8 h1) (fun f p=>c.d ha f p),hm,ol,bne_self_eq_false]
   simp only [Bool.not_true,cond_false]
   rw [← ol,B98 (q:=⟨l,tk,E5 g,s0,t,[],Zg (msT t0),Oq hit ks⟩) (n:=n) (by omega) ol ((A07 _ _).trans (c.hl.trans hn)) hm hm0 (fun k hk=>by
    have hk:Ci (Oq hit ks) k=false:=hk
    rw [A6f ks hit c.hl (Avw c.kr ha),Bool.or_eq_false_iff] at hk
    exact (c.e k hk.1 hk.2).1)]
   show (szT (lwG (E5 g)) (Aq3 ⟨l,tk,E5 g,s0,t,[],Zg (msT t0),Oq hit ks⟩ (i:Int) (TickV g t)):A5d)=_
   rw [show szT (lwG (E5 g)) _=_ from Dg (l:=g.1) hs]
  rw [e1]
  rcases Aq9 c.a (by rw [c.tk];exact fun e=>by have e:(i:Int)=4000:=e;omega) with e | ⟨r,hf,e⟩
  ·rw [e];exact .inl rfl
  ·rw [e]
   refine .inr ⟨⟨l,tk,E5 g,s0,nxS t r,r.2.2,totR g t0,Oq hit ks⟩,?_,rfl,ol,rfl,rfl,rfl,c.tick hl (by omega) ha hf⟩
   show some (Sum.inl (Oh ⟨l,tk,E5 g,s0,nxS t r,r.2.2,totR g t0,Oq hit ks⟩ (W64 ((i:Int)+1))))=_
   rw [Bi (n:=(i:Int)+1) (by omega) (by omega)]
   rfl
theorem Aqb {g:TCT cGr} {s0 t0:TCT cSt} {n:Nat} (hs:(g.1.1.size:Int)≤Bl .i64) (hl:Aao g.1) (h0:StaOk g s0) (h1:StaOk g t0) (hn:(A4 g).length=n):∀ (k i m:Nat) (q:QTc),i+k=31→k+1≤m→OI g s0 t0 n i q→∃ y,iter (Mt TickV totR) m (Oh q (i:Int))=some y∧(y=Ms true∨y=Adg)
 | k,i,0,q,_,hm,_=>by omega
 | k,i,m+1,q,hk,hm,o=>by
  cases hd:decide ((i:Int)≤Int.tmod (W64 q.tk) 31) with
  | false =>
   refine ⟨Adg,Ib ?_,.inr rfl⟩
   show (V5 TickV totR q (i:Int)).run=_
   unfold V5
   rw [hd]
   rfl
  | true =>
   have hd':=of_decide_eq_true hd
   have h30:=B99 (t:=q.tk)
   rcases Aqa hs hl h0 h1 hn (by omega) o hd' with e | ⟨q',e,_,o'⟩
   ·exact ⟨_,Ib e,.inl rfl⟩
   ·cases k with
    | zero=>omega
    | succ k =>
     obtain ⟨y,e2,hy⟩:=Aqb hs hl h0 h1 hn k (i+1) m q' (by omega) (by omega) o'
     exact ⟨y,(Lq e).trans e2,hy⟩
def bwN (x y p k:Int):TCT cBl:=(0,(x,(bif x==0&&(y==0&&true) then 1 else y),()),p,k,())
theorem B9a {x y p k n:Int} (h1 : -32768≤x∧x≤32767) (h2 : -32768≤y∧y≤32767) (h3:1≤p∧p≤2097152) (h4:0≤k∧k≤4) (hn:1≤n):bwB n (bwN x y p k)=false:=by
 unfold bwB bwN
 simp only
 have hf:fpt x (bif x==0&&(y==0&&true) then 1 else y)=true:=by
  cases x==0&&(y==0&&true) <;> exact decide_eq_true (by simp only [cond_true,cond_false];omega)
 have hz:(x==0&&((bif x==0&&(y==0&&true) then 1 else y)==0&&true))=false:=by
  cases hx:x==0 with
  | false=>rfl
  | true =>
   cases hy:y==0 with
   | true=>rfl
   | false=>simp only [Bool.true_and,Bool.false_and,cond_false,hy]
 rw [hf,hz,decide_eq_false (show ¬ (0:Int)<0 by decide),decide_eq_false (show ¬ (0:Int)≥n by omega),decide_eq_false (show ¬ (p<1) by omega),decide_eq_false (show ¬ (p>2097152) by omega),decide_eq_false (show ¬ (k<0) by omega),decide_eq_false (show ¬ (k>4) by omega)]
 rfl
theorem Bek {p:Int} (h3:0≤p∧p≤4294967295):W64 (1+Int.tmod (W64 p) 2097152)=1+p % 2097152:=by
 rw [Bi (n:=p) (by omega) (by omega),Int.tmod_eq_emod_of_nonneg h3.1,Bi (n:=1+p % 2097152) (by omega) (by omega)]
theorem Bel {k:Int} (h4:0≤k∧k≤255):Int.tmod (W64 k) 5=k % 5:=by
 rw [Bi (n:=k) (by omega) (by omega),Int.tmod_eq_emod_of_nonneg h4.1]
theorem Bem (p:Int):1≤1+p % 2097152∧1+p % 2097152≤2097152:=by omega
theorem Bjh (k:Int):0≤k % 5∧k % 5≤4:=by omega
theorem w16 {x:Int} (h : -32768≤x∧x≤32767):W64 x=x:=Bi (by omega) (by omega)
theorem B9b {w:TCT Ku} (hw:WFD Ku w):Fx w 0=bwN w.1 w.2.1 (1+w.2.2.1 % 2097152) (w.2.2.2.1 % 5):=by
 unfold Fx bwN
 rw [Bek hw.2.2.1,Bel hw.2.2.2.1,w16 hw.1,w16 hw.2.1]
theorem Aqc {w:TCT Ku} (hw:WFD Ku w) {n:Int} (hn:1≤n):bwB n (Fx w 0)=false:=by
 rw [B9b hw]
 exact B9a hw.1 hw.2.1 (Bem _) (Bjh _) hn
theorem B9c {d s:Int} {x:TCT Co} {l:List (TCT D6)} (h:If d s x l=true):∃ ps,V2 d s l=.inl ps∧(G3 (gN d s x ps.length) ps).2.1=0∧(msT (G3 (gN d s x ps.length) ps).1).length=l.length:=by
 unfold If at h
 cases ho:V2 d s l with
 | inr ps=>rw [ho] at h;cases h
 | inl ps =>
  rw [ho] at h
  have h:Apq l (G3 (gN d s x ps.length) ps)=true:=h
  unfold Apq at h
  rw [Bool.and_eq_true,Bool.and_eq_true] at h
  refine ⟨ps,rfl,beq_iff_eq.1 h.1,?_⟩
  have:=beq_iff_eq.1 h.2.1
  omega
theorem Aqd {d s:Int} {x:TCT Co} {l:List (TCT D6)} (h:If d s x l=true):StaOk (Gr d s x l) (Hw d s x l)∧Dh (Hw d s x l)=true∧(∀ j:Nat,Ci (osT (Hw d s x l)) j=false)∧(A4 (Gr d s x l)).length=l.length∧(Gr d s x l).1=grn d s:=by
 obtain ⟨ps,ho,he,hm⟩:=B9c h
 obtain ⟨a,b,c,e⟩:=Bcb he
 unfold Gr Hw
 rw [ho]
 exact ⟨a,b,c,a.m.symm.trans hm,rfl⟩
theorem B9d {l:List (TCT D6)} {w:TCT Ku} {tk:Int} (x:TCT Co) (hw:WFD Ku w) (h0:(l.length:Int)≠0) (h4:¬ (l.length:Int)>4):(Aq8 skV TickV totR l tk (Gr 0 0 x l) (Hw 0 0 x l) (If 0 0 x l) (Fx w 0)).sat (fun _=>True):=by
 unfold Aq8
 cases hb:If 0 0 x l with
 | false=>exact trivial
 | true =>
  obtain ⟨hS,hst,hout,hlen,hgr⟩:=Aqd hb
  have hf:Aao (Gr 0 0 x l).1:=by rw [hgr];exact Bej
  have hs:((Gr 0 0 x l).1.1.size:Int)≤Bl .i64:=by rw [hgr];exact Of 0 0
  generalize Gr 0 0 x l=g at *
  generalize Hw 0 0 x l=s at *
  rw [Bool.not_true,cond_false,Dg hs]
  have hbw:bwB ((A4 g).length:Int) (Fx w 0)=false:=Aqc hw (by omega)
  have k:SkOk g s (Fx w 0):=⟨hS,Aje hbw,hst,hout _⟩
  unfold B6w
  cases he:(skV g s (Fx w 0)).2.2.1 != 0 with
  | true =>
   rw [Avt k hbw (bne_iff_ne.1 he)]
   exact trivial
  | false =>
   have he':=bne_eq_false_iff_eq.1 he
   obtain ⟨t1,_⟩:=Af5 he'
   rw [cond_false,Dg hs]
   show Tree.sat _ (bif Fp g (skV g s (Fx w 0)).1 != 0 then .fail else Aq7 TickV totR l tk g s (skV g s (Fx w 0)).1 (skV g s (Fx w 0)).2.1 (totR g (skV g s (Fx w 0)).1))
   rw [Vm t1,cond_false]
   unfold Aq7
   rw [decide_eq_true (by omega),cond_true,G4 (by rw [List.length_replicate];omega)]
   have hh:(A89 l.length).length=(A4 g).length:=by
    unfold A89
    rw [Bw,List.length_replicate,hlen];omega
   have hz:Ci (A89 l.length) (Int.toNat (Fx w 0).1)=true:=by
    show Ci (A89 l.length) 0=true
    unfold A89
    rw [A08 (by rw [List.length_replicate];omega),show decide (0=Int.toNat 0)=true from rfl,Bool.or_true]
   have ci:=CI.zero (w:=Fx w 0) he' hh hz
   obtain ⟨y,e,hy⟩:=Aqb (n:=l.length) hs hf hS t1 hlen 31 0 40 ⟨l,tk,E5 g,s,(skV g s (Fx w 0)).1,(skV g s (Fx w 0)).2.1,totR g (skV g s (Fx w 0)).1,A89 l.length⟩ (by omega) (by omega) ⟨rfl,rfl,rfl,rfl,ci⟩
   rw [show iter (Mt TickV totR) 40 (Oh ⟨l,tk,E5 g,s,(skV g s (Fx w 0)).1,(skV g s (Fx w 0)).2.1,totR g (skV g s (Fx w 0)).1,A89 l.length⟩ 0)=some y from e]
   rcases hy with rfl | rfl
   ·exact trivial
   ·exact trivial
theorem B9e {l:List (TCT D6)} {w:TCT Ku} {r tk:Int} (hw:WFD Ku w):(Azz Gr Hw If Fx skV TickV totR l w r tk).sat (fun _=>True):=by
 unfold Azz
 cases c0:(l.length:Int)==0 with
 | true=>exact trivial
 | false =>
  cases c4:decide ((l.length:Int)>4) with
  | true=>exact trivial
  | false =>
   have h4:=of_decide_eq_false c4
   have h0:(l.length:Int)≠0:=fun e=>by rw [e] at c0;cases c0
   rw [cond_false,cond_false,decide_eq_true (show l.length≤1000 by omega),cond_true]
   exact B9d _ hw h0 h4
end Tp
open Tp
theorem topConserved_sat:LawSat X_topConserved 3 cs_topConserved 10:=Ay0 10 (fun y=>Azz Gr Hw If Fx St.skV St.TickV St.totR y.1 y.2.1 y.2.2.1 y.2.2.2.1) (B00 Gr Hw If Fx St.skV St.TickV St.totR) fun _ hw=>B9e hw.2.1
end V
end Go.Proofs.YtcfanlgpkefogaaGreat
namespace Go.Proofs.YtcfanlgpkefogaaGreat.topConserved
open Go.ChangeShapes Go.WideShapes Go.ChangeAt Go.RowKit
theorem own:ownKnob Tryz.prog.godebug=none:=by kernel_rfl
theorem laid:laidOutB Tryz.prog=true:=by kernel_rfl
set_option maxRecDepth 100000 in
theorem lifted (os:Os) (started:os.Started) (H:Type) (enc:TypeId×Value→H) :
  ReturnsInHanded {} Tryz.checked os 3 .any (Rows.topConservedSpec.pre6 enc Tryz.prog Tryz.f3 Rows.topConservedRow.domain false) (Rows.topConservedSpec.post enc Tryz.prog Tryz.f3 false true false false):=by
 refine returnsInHanded_of_change (C:=Tryz.checked) own started (by kernel_rfl) Tryz.func3
  (ChangeSpec.witness6 (enc:=enc) (C:=Tryz.checked) false ⟨#[],#[.slice none 0 0,.agg #[.int .i16 0,.int .i16 0,.int .u32 0,.int .u8 0],.int .u16 0,.int .u8 0],[]⟩ 8 (by kernel_rfl) (by kernel_rfl) (by kernel_rfl) (by kernel_rfl)) ?_
 intro W base args ds gs before hval0 hW hcnd _
 exact V.law_contract (X:=V.X_topConserved) V.X_topConserved_ok (P:=Tryz.prog) (by rfl) laid (fn:=Tryz.f3) V.cs_topConserved 10 (by rfl) (by kernel_rfl) (by kernel_rfl) Tryz.underlying4
  4 (by kernel_rfl) (fun ds h=>by match ds,h with | [_,_,_,_],_=>rfl) V.topConserved_sat hval0 hW
theorem proved:Rows.TopConservedSaid :=
 OpenClaim.holds_of_wide 3 Tryz.f3 rfl rfl rfl rfl rfl rfl rfl ⟨rfl,rfl,rfl,rfl,rfl⟩ rfl rfl rfl rfl rfl (by kernel_rfl) Tryz.func3 (by kernel_rfl)
  (of_decide_eq_true (by kernel_rfl)) (by unfold Func.isWrapper;first | (rw [if_pos (by decide +kernel)];kernel_rfl) | (rw [if_neg (by decide +kernel)];exact ⟨rfl,rfl⟩))
  (fun os started H enc _=>lifted os started H enc)
#print axioms proved
end Go.Proofs.YtcfanlgpkefogaaGreat.topConserved
