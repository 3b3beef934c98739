import Derived.Test.YtcfanlgpkefogaaGreatAg
import Derived.Test.YtcfanlgpkefogaaGreatNd
import Derived.Test.YtcfanlgpkefogaaGreatFo
import Derived.Test.YtcfanlgpkefogaaGreatRows
import Derived.Test.YtcfanlgpkefogaaGreatVC
import Derived.WalkKit
import Derived.ProofKit
import Derived.OpenShut
namespace Go.Proofs.YtcfanlgpkefogaaGreat
open Go.RowKit
namespace V
namespace Tp
open St
theorem is_TopConserved:FnIs Tryz.prog (3,Tryz.f3):=⟨Tryz.func3,by kernel_rfl,by kernel_rfl⟩
noncomputable def plTc (G:FGn) (S:FSs) (B:FBb) (W:FBl) (F:FSk) (U:FTk) (V:FTt):List (Nat×PureT):=(10,Ap4 G S B)::(12,Ap5 W)::(11,B5n F)::(14,B5o U)::(13,B5p V)::(9,Pu)::[]
theorem puTc:De Tryz.prog (plTc Lf O1 Oi Ic skV TickV totR):=puOk_cons is_set.plain B8d (puOk_cons is_blow.plain B8e (puOk_cons is_sStrike.plain A3m (puOk_cons is_sTick.plain Aih (puOk_cons is_sTotal.plain A93 (puOk_cons is_works05.plain Uv puOk_nil)))))
abbrev cU8:TC:=.i .u8
abbrev Ayy:List BK:=[(1,41,kGr),(2,45,kSt),(12,45,kSt),(16,31,kPt)]
def Qo:Lay:={ keys:=[0,3,9,10,12,13,15,16,17],ks:=[.d (.sl F7),.d cU8,.p 1 0 0 0,.p 2 0 0 0,.p 12 0 0 0,.d (.sl cKn),.p 16 0 0 0,.o 4 .b,.d cI],bs:=Ayy,n:=201,nx:=1000,marks:=[] }
def W5:Lay:={ keys:=[0,3,9,10,12,13,15,16,17,18],ks:=[.d (.sl F7),.d cU8,.p 1 0 0 0,.p 2 0 0 0,.p 12 0 0 0,.d (.sl cKn),.p 16 0 0 0,.o 4 .b,.d cI,.d cI],bs:=Ayy,n:=201,nx:=3000,marks:=[] }
def W6:Lay:={ keys:=[0,3,9,10,12,15,16,17,21],ks:=[.d (.sl F7),.d cU8,.p 1 0 0 0,.p 2 0 0 0,.p 12 0 0 0,.p 16 0 0 0,.o 4 .b,.d cI,.d cI],bs:=Ayy,n:=201,nx:=5000,marks:=[] }
def B5q (nx:Nat):Lay:={ keys:=[0,3,9,10,12,15,16,17],ks:=[.d (.sl F7),.d cU8,.p 1 0 0 0,.p 2 0 0 0,.p 12 0 0 0,.p 16 0 0 0,.o 4 .b,.d cI],bs:=Ayy,n:=201,nx:=nx,marks:=[] }
def Ap6 (nx:Nat):Lay:={ keys:=[8],ks:=[.d .b],bs:=[],n:=201,nx:=nx,marks:=[] }
def Bdl:Lay:={ keys:=[],ks:=[],bs:=[],n:=201,nx:=1000,marks:=[] }
def W7:XE→Lay:=fun e=>match e with | .ret=>Ap6 1000 | _=>Bdl
def Sk:XE→Lay:=fun e=>match e with | .ret=>Ap6 3000 | _=>B5q 3000
def Sl:XE→Lay:=fun e=>match e with | .ret=>Ap6 5000 | _=>B5q 5000
noncomputable def A4x:Code:=(Ak (bodyOf Tryz.f3)).getD 0 .skip
noncomputable def A4y:Code:=(Ak (bodyOf Tryz.f3)).getD 1 .skip
noncomputable def A4z:Code:=(Ak (bodyOf Tryz.f3)).getD 2 .skip
noncomputable def plW5:List (Nat×PureT):=[(9,Pu)]
theorem puW5:De Tryz.prog plW5:=puOk_cons is_works05.plain Uv puOk_nil
noncomputable def Bdm:Ctx:=ctx Tryz.prog plW5 []
theorem A7o:CtxOk Bdm:=B6 Aw puW5 A1
structure QTc where
 l:List (TCT F7)
 tk:Int
 g:SKTs kGr
 s:SKTs kSt
 t:SKTs kSt
 ks:Kns
 sum:SKTs kPt
 hit:List Bool
def Oj (q:QTc) (i:Int):Qo.T:=((q.l,q.tk,(),(),(),q.ks,(),q.hit,i,()),(q.g,q.s,q.t,q.sum,()))
def A50 (q:QTc) (i k:Int):W5.T:=((q.l,q.tk,(),(),(),q.ks,(),q.hit,i,k,()),(q.g,q.s,q.t,q.sum,()))
def Uw (q:QTc) (i k:Int):W6.T:=((q.l,q.tk,(),(),(),(),q.hit,i,k,()),(q.g,q.s,q.t,q.sum,()))
def A51 (q:QTc) (i:Int):A0 Sk:=⟨.exit 2,((q.l,q.tk,(),(),(),(),q.hit,i,()),(q.g,q.s,q.t,q.sum,()))⟩
def Acv (q:QTc) (i:Int):A0 Sl:=⟨.exit 4,((q.l,q.tk,(),(),(),(),q.hit,i,()),(q.g,q.s,q.t,q.sum,()))⟩
def Ol (b:Bool):A0 Sk:=⟨.ret,((b,()),())⟩
def B8f (b:Bool):A0 Sl:=⟨.ret,((b,()),())⟩
def N5 (b:Bool):A0 W7:=⟨.ret,((b,()),())⟩
def Acw:A0 W7:=⟨.exit 0,((),())⟩
def knT (q:QTc) (k:Int):TCT cKn:=B7 q.ks (Int.toNat k) (B9 cKn)
def Ra (q:QTc) (i k:Int):Tree (W5.T⊕A0 Sk):=bif decide (k<(q.ks.length:Int)) then inN q.ks.length k (bif (knT q k).2.2.1 != 0 then .leaf (.inr (Ol true)) else
 inN q.ks.length k (bif decide ((knT q k).2.2.2.1<0) then .leaf (.inr (Ol false)) else inN q.ks.length k (bif decide ((knT q k).2.2.2.1≥(q.l.length:Int)) then .leaf (.inr (Ol false)) else
 inN q.ks.length k (bif decide ((knT q k).2.2.2.2.1<0) then .leaf (.inr (Ol false)) else inN q.ks.length k (bif decide ((knT q k).2.2.2.2.1≥(q.l.length:Int)) then .leaf (.inr (Ol false)) else
 inN q.ks.length k (inN q.ks.length k (inO q.hit.length (knT q k).2.2.2.1 (inO (By q.hit (Int.toNat (knT q k).2.2.2.1) true).length (knT q k).2.2.2.2.1 (.leaf (.inl (A50 { q with hit:=Xg q.hit (knT q k) } i (W64 (k+1))))))))))))) else .leaf (.inr (A51 q i))
def Ux (x:W5.T):Tree (W5.T⊕A0 Sk):=Ra ⟨x.1.1,x.1.2.1,x.2.1,x.2.2.1,x.2.2.2.1,x.1.2.2.2.2.2.1,x.2.2.2.2.1,x.1.2.2.2.2.2.2.2.1⟩ x.1.2.2.2.2.2.2.2.2.1 x.1.2.2.2.2.2.2.2.2.2.1
def Acx (x:W5.T):Nat:=(x.1.2.2.2.2.2.1:Kns).length+1
theorem Bdn:Bc Tryz.prog 3 A4y (Bd W5 Sk (E5 [.ret,.exit 2] Ux Acx)):=Bv A7o 7 _ W5 Sk (fun e=>by cases e <;> exact Nat.le_refl _) [.ret,.exit 2] Ux Acx (fun g=>by kernel_rfl)
def Ayz (a b:TCT Bg):Bool:=(a.1.1==b.1.1&&(a.1.2.1==b.1.2.1&&true))&&((a.2.1.1==b.2.1.1&&(a.2.1.2.1==b.2.1.2.1&&true))&&((a.2.2.1.1==b.2.2.1.1&&(a.2.2.1.2.1==b.2.2.1.2.1&&true))&&true))
def moT (s:SKTs kSt) (k:Int):TCT Bg:=B7 (s.1:B5) (Int.toNat k) (B9 Bg)
def Ya (q:QTc) (i k:Int):Tree (W6.T⊕A0 Sl):=bif decide (k<(q.l.length:Int)) then inO q.hit.length k (bif !B7 q.hit (Int.toNat k) (B9 .b) then inN (q.t.1:B5).length k (inN (q.s.1:B5).length k (bif !Ayz (moT q.t k) (moT q.s k) then .leaf (.inr (B8f false)) else .leaf (.inl (Uw q i (W64 (k+1)))))) else .leaf (.inl (Uw q i (W64 (k+1))))) else .leaf (.inr (Acv q i))
def Rb (x:W6.T):Tree (W6.T⊕A0 Sl):=Ya ⟨x.1.1,x.1.2.1,x.2.1,x.2.2.1,x.2.2.2.1,[],x.2.2.2.2.1,x.1.2.2.2.2.2.2.1⟩ x.1.2.2.2.2.2.2.2.1 x.1.2.2.2.2.2.2.2.2.1
def Acy (x:W6.T):Nat:=(x.1.1:List (TCT F7)).length+1
theorem Bdo:Bc Tryz.prog 3 A4z (Bd W6 Sl (E5 [.ret,.exit 4] Rb Acy)):=Bv A7o 7 _ W6 Sl (fun e=>by cases e <;> exact Nat.le_refl _) [.ret,.exit 4] Rb Acy (fun g=>by kernel_rfl)
def Ago (a b:SKTs kPt):Bool:=a.1==b.1&&(a.2.1==b.2.1&&true)
abbrev A52:=Tree (Qo.T⊕A0 W7)
def Ap7 (q:QTc) (i:Int) (r:TkR):A52:=bif r.2.2.1 != 0 then bif r.2.2.1==4 then .leaf (.inr (N5 true)) else .leaf (.inr (N5 false)) else .leaf (.inl (Oj { q with t:=r.1,ks:=r.2.1 } (W64 (i+1))))
def Bdp (U:FTk) (q:QTc) (i:Int):A52:=szT (lwG q.g) (Ap7 q i (U (Alj q.g) q.t))
def Bdq (v:(Sl (.exit 4)).T):QTc:=⟨v.1.1,v.1.2.1,v.2.1,v.2.2.1,v.2.2.2.1,[],v.2.2.2.2.1,v.1.2.2.2.2.2.2.1⟩
def B5r (U:FTk) (y:Option (A0 Sl)):A52:=bif isE .ret y then .leaf (.inr (N5 (D4 .ret y).1.1)) else bif isE (.exit 4) y then Bdp U (Bdq (D4 (.exit 4) y)) (D4 (.exit 4) y).1.2.2.2.2.2.2.2.1 else .fail
def A7p (U:FTk) (V:FTt) (q:QTc) (i:Int):A52:=szT (lwG q.g) (bif Db (Alj q.g) q.t != 0 then .leaf (.inr (N5 false)) else bif !Ago (V (Alj q.g) q.t) q.sum then .leaf (.inr (N5 false)) else bif ((q.t.1:B5).length:Int)!=(q.l.length:Int) then .leaf (.inr (N5 false)) else
 B5r U (iter Rb (q.l.length+1) (Uw q i 0)))
def Bdr (v:(Sk (.exit 2)).T):QTc:=⟨v.1.1,v.1.2.1,v.2.1,v.2.2.1,v.2.2.2.1,[],v.2.2.2.2.1,v.1.2.2.2.2.2.2.1⟩
def Bds (U:FTk) (V:FTt) (y:Option (A0 Sk)):A52:=bif isE .ret y then .leaf (.inr (N5 (D4 .ret y).1.1)) else bif isE (.exit 2) y then A7p U V (Bdr (D4 (.exit 2) y)) (D4 (.exit 2) y).1.2.2.2.2.2.2.2.1 else .fail
def Uy (U:FTk) (V:FTt) (q:QTc) (i:Int):A52:=bif decide (i≤Int.tmod (W64 q.tk) 31) then Bds U V (iter Ux (q.ks.length+1) (A50 q i 0)) else .leaf (.inr Acw)
def N6 (U:FTk) (V:FTt) (x:Qo.T):A52:=Uy U V ⟨x.1.1,x.1.2.1,x.2.1,x.2.2.1,x.2.2.2.1,x.1.2.2.2.2.2.1,x.2.2.2.2.1,x.1.2.2.2.2.2.2.2.1⟩ x.1.2.2.2.2.2.2.2.2.1
def Acz (_:Qo.T):Nat:=40
noncomputable def plTu (U:FTk) (V:FTt):List (Nat×PureT):=[(14,B5o U),(13,B5p V),(9,Pu)]
theorem puTu:De Tryz.prog (plTu TickV totR):=puOk_cons is_sTick.plain Aih (puOk_cons is_sTotal.plain A93 (puOk_cons is_works05.plain Uv puOk_nil))
noncomputable def Ap8 (U:FTk) (V:FTt):Ctx:=ctx Tryz.prog (plTu U V) []
theorem Az0:CtxOk (Ap8 TickV totR):=B6 Aw puTu A1
noncomputable def B5s:Lp:=D7 [((3,18),Bd W5 Sk (E5 [.ret,.exit 2] Ux Acx)),((3,29),Bd W6 Sl (E5 [.ret,.exit 4] Rb Acy))] 3
theorem Ap9 (U:FTk) (V:FTt) (g:Qo.T):evC (Ap8 U V).P (E1 (Ap8 U V) 7) (Ap8 U V).pures 3 (Ap8 U V).u B5s A4x (Qo.of g) (Hj Qo W7)=N6 U V g:=by kernel_rfl
end Tp
end V
end Go.Proofs.YtcfanlgpkefogaaGreat
namespace Go.Proofs.YtcfanlgpkefogaaGreat
open Go.RowKit
namespace V
namespace Tp
open St
theorem Al0:Ak A4x=[A4y,A4z]:=by kernel_rfl
theorem Agp:keyOf A4y=18:=by kernel_rfl
theorem Agq:keyOf A4z=29:=by kernel_rfl
theorem Apa:Ak (bodyOf Tryz.f3)=[A4x,A4y,A4z]:=by kernel_rfl
theorem Bdt:Bc Tryz.prog 3 A4x (Bd Qo W7 (E5 [.ret,.exit 0] (N6 TickV totR) Acz)) :=
 Up Az0 7 _ B5s (fun d hd f hf=>by
  rw [Al0,List.mem_cons,List.mem_singleton] at hd
  rcases hd with rfl | rfl
  ·rw [Agp] at hf
   exact Option.some.inj (show some _=some f from hf) ▸ Bdn
  ·rw [Agq] at hf
   exact Option.some.inj (show some _=some f from hf) ▸ Bdo) Qo W7 (fun e=>by cases e <;> exact Nat.le_refl _) [.ret,.exit 0] (N6 TickV totR) Acz (Ap9 TickV totR)
def Sm:Tree Unit:=.leaf ()
def Bdu (U:FTk) (V:FTt) (y:Option (A0 W7)):Tree Unit:=bif isE .ret y then bif (D4 .ret y).1.1 then Sm else .fail else bif isE (.exit 0) y then Sm else .fail
def A7q (n:Nat):List Bool:=By (List.replicate (Int.toNat (n:Int)) false) (Int.toNat 0) true
def Apb (U:FTk) (V:FTt) (l:List (TCT F7)) (tk:Int) (g:TCT cGr) (s t:TCT cSt) (ks:Kns) (sm:SKTs kPt):Tree Unit :=
 bif decide (0≤(l.length:Int)∧(l.length:Int)≤(l.length:Int)∧(l.length:Int)≤65536∧((1:Nat):Int)*(l.length:Int)≤281474976710656) then inO (List.replicate (Int.toNat (l.length:Int)) false).length 0 (Bdu U V (iter (N6 U V) 40 (Oj ⟨l,tk,Eh g,s,t,ks,sm,A7q l.length⟩ 0))) else .fail
def B5t (U:FTk) (V:FTt) (l:List (TCT F7)) (tk:Int) (g:TCT cGr) (s:TCT cSt) (r:TkR):Tree Unit :=
 bif r.2.2.1 != 0 then bif r.2.2.1==4 then Sm else .fail else szT g.1 (bif Db g (St.etaS r.1)!=0 then .fail else Apb U V l tk g s r.1 r.2.1 (V g (St.etaS r.1)))
def Apc (F:FSk) (U:FTk) (V:FTt) (l:List (TCT F7)) (tk:Int) (g:TCT cGr) (s:TCT cSt) (b:Bool) (w:TCT cBl):Tree Unit :=
 bif !b then Sm else szT g.1 (B5t U V l tk g s (F g s w))
def Az1 (G:FGn) (S:FSs) (B:FBb) (W:FBl) (F:FSk) (U:FTk) (V:FTt) (l:List (TCT F7)) (w:TCT Qk) (r tk:Int):Tree Unit :=
 bif (l.length:Int)==0 then Sm else bif decide ((l.length:Int)>4) then Sm else bif decide (l.length≤1000) then Apc F U V l tk (B5l (G 0 0 (Int.tmod (W64 r) 951,0,()) l)) (St.etaS (S 0 0 (Int.tmod (W64 r) 951,0,()) l)) (B 0 0 (Int.tmod (W64 r) 951,0,()) l) (B5m (W w 0)) else .fail
end Tp
open Tp
abbrev cs_topConserved:List TC:=[.sl F7,Qk,.i .u16,.i .u8]
noncomputable def O2 (G:FGn) (S:FSs) (B:FBb) (W:FBl) (F:FSk) (U:FTk) (V:FTt):Ctx:=Ie Tryz.prog (plTc G S B W F U V) [(3,Tryz.f3)] [((3,15),Bd Qo W7 (E5 [.ret,.exit 0] (N6 U V) Acz))]
noncomputable def X_topConserved:Ctx:=O2 Lf O1 Oi Ic St.skV St.TickV St.totR
theorem X_topConserved_ok:CtxOk X_topConserved:=D6 Aw puTc (fns_cons is_TopConserved A1) (St.loops_in (fun d hd hk=>by
 rw [Apa,List.mem_cons,List.mem_cons,List.mem_singleton] at hd
 rcases hd with rfl | rfl | rfl
 ·rfl
 ·rw [Agp] at hk;cases hk
 ·rw [Agq] at hk;cases hk) Bdt)
theorem Az2 (G:FGn) (S:FSs) (B:FBb) (W:FBl) (F:FSk) (U:FTk) (V:FTt) (y:TCTs cs_topConserved):E1 (O2 G S B W F U V) 10 (.fn 3) (Eg cs_topConserved y) Ck 0 Ac8=Az1 G S B W F U V y.1 y.2.1 y.2.2.1 y.2.2.2.1:=by kernel_rfl
end V
end Go.Proofs.YtcfanlgpkefogaaGreat
namespace Go.Proofs.YtcfanlgpkefogaaGreat
open Go.RowKit
namespace V
namespace Tp
open St
theorem A7r {g:TCT cGr} {s:TCT cSt} (h:StaOk g s):totR g s=Yv (msT s):=by
 unfold totR
 rw [Zp h]
 rfl
theorem Az3 {a b:B5} (ha:SM a∧a.length≤8) (hb:SM b∧b.length≤8) (h:∀ f:TCT cPt→Int,PartH f→smP f a=smP f b):Ago (Yv a) (Yv b)=true:=by
 obtain ⟨a1,a2⟩:=Aj8 ha.2 ha.1
 obtain ⟨b1,b2⟩:=Aj8 hb.2 hb.1
 unfold Ago
 rw [a1,a2,b1,b2,h _ .x,h _ .y,beq_self_eq_true,beq_self_eq_true]
 rfl
theorem Apd {g:TCT cGr} {s:TCT cSt} (h:StaOk g s) (ht:s.2.2.2.2.1≠4000):TickV g s=I3 4∨∃ r:S2,tkF (ctS g s) (msT s,osT s,[])=.inl r∧TickV g s=(nxS s r,r.2.2,0,()):=by
 unfold TickV
 rw [Zp h,cond_false]
 unfold tkV
 cases hf:tkF (ctS g s) (msT s,osT s,[]) with
 | inr e=>exact .inl (by rw [Avu h ht hf];rfl)
 | inl r=>exact .inr ⟨r,rfl,rfl⟩
theorem Bdv:Aae (grn 0 0):=fun p=>by
 have key:∀ n:Nat,B7 (Dx (grn 0 0)) n (B9 Dc)=(0,0,0,()):=fun n=>by
  cases n with
  | zero=>rfl
  | succ n=>rfl
 unfold Ju
 cases Fy (grn 0 0) p==0 with
 | false=>exact ⟨rfl,rfl,rfl⟩
 | true=>rw [cond_true,key];exact ⟨rfl,rfl,rfl⟩
theorem Agr {E:Type} (rt:E) (ex:List Bool→E):∀ (l:Kns) (i:Nat) (h:List Bool),Sg (fun _ x h=>bif nbK x then some (.inr rt) else some (.inl (Xg h x))) (fun h=>some (ex h)) i l h=some (bif l.any nbK then rt else ex (P1 h l))
 | [],_,_=>rfl
 | x::l,i,h=>by
  simp only [Sg,List.any_cons]
  cases hx:nbK x with
  | true=>rfl
  | false=>simp only [cond_false,Bool.false_or];exact Agr rt ex l (i+1) (Xg h x)
theorem B8g {q:QTc} {i:Int} {n:Nat} (hl:q.l.length=n) (hh:q.hit.length=n) (kr:KR n q.ks) (hk:q.ks.length≤129152):iter Ux (q.ks.length+1) (A50 q i 0)=some (bif q.ks.any nbK then Ol true else A51 { q with hit:=P1 q.hit q.ks } i):=by
 have key:=G8 (st:=Ux) q.ks (fun k h=>A50 { q with hit:=h } i (k:Int)) (fun _ x h=>bif nbK x then some (.inr (Ol true)) else some (.inl (Xg h x))) (fun h=>some (A51 { q with hit:=h } i)) (fun _ h=>h.length=n)
  (fun k h hi hI=>by
   have e1:knT { q with hit:=h } (k:Int)=q.ks[k]:=by unfold knT;exact E8 hi _
   have eK:Ml q.ks k=q.ks[k]:=E8 hi _
   have hb:∀ {β:Type} (t:Tree β),inN q.ks.length (k:Int) t=t:=fun t=>E2 (by omega)
   cases hx:nbK q.ks[k] with
   | true =>
    show (Ra { q with hit:=h } i (k:Int)).run=_
    unfold Ra
    rw [e1,decide_eq_true (show (k:Int)<(q.ks.length:Int) by omega),cond_true,hb]
    rw [show (q.ks[k].2.2.1 != 0)=true from hx]
    rfl
   | false =>
    have z:q.ks[k].2.2.1=0:=bne_eq_false_iff_eq.1 hx
    have a:=kr k hi (by rw [eK];exact z)
    rw [eK] at a
    obtain ⟨⟨a1,a2⟩,a3,a4⟩:=a
    have b2:q.ks[k].2.2.2.1<(q.l.length:Int):=by rw [hl];exact a2
    have b4:q.ks[k].2.2.2.2.1<(q.l.length:Int):=by rw [hl];exact a4
    refine ⟨?_,Zv.trans hI⟩
    show (Ra { q with hit:=h } i (k:Int)).run=_
    unfold Ra
    simp only [e1,hb]
    rw [decide_eq_true (show (k:Int)<(q.ks.length:Int) by omega),show (q.ks[k].2.2.1 != 0)=false from hx,decide_eq_false (show ¬ q.ks[k].2.2.2.1<0 from Int.not_lt.2 a1),decide_eq_false (show ¬ q.ks[k].2.2.2.1≥(q.l.length:Int) from Int.not_le.2 b2),decide_eq_false (show ¬ q.ks[k].2.2.2.2.1<0 from Int.not_lt.2 a3),decide_eq_false (show ¬ q.ks[k].2.2.2.2.1≥(q.l.length:Int) from Int.not_le.2 b4),Bi (n:=(k:Int)+1) (by omega) (by omega)]
    simp only [cond_true,cond_false]
    rw [G9 ⟨a1,by rw [hI];exact a2⟩,G9 ⟨a3,by rw [C7,hI];exact a4⟩]
    rfl)
  (fun h e _ he=>by
   cases he
   show (Ra { q with hit:=h } i (q.ks.length:Int)).run=_
   unfold Ra
   rw [decide_eq_false (show ¬ (q.ks.length:Int)<(q.ks.length:Int) by omega)]
   rfl)
  q.ks.length 0 q.hit (bif q.ks.any nbK then Ol true else A51 { q with hit:=P1 q.hit q.ks } i) (q.ks.length+1) (by omega) (by omega) hh (by rw [List.drop_zero,Agr])
 exact key
theorem Al1 (m:TCT Bg):Ayz m m=true:=by unfold Ayz;simp only [beq_self_eq_true,Bool.and_self]
theorem B8h {q:QTc} {i:Int} {n:Nat} (hn:n≤8) (hl:q.l.length=n) (hh:q.hit.length=n) (ht:(q.t.1:B5).length=n) (hs:(q.s.1:B5).length=n) (he:∀ k:Nat,Di q.hit k=false→A8 q.t.1 k=A8 q.s.1 k):iter Rb (q.l.length+1) (Uw q i 0)=some (Acv q i):=by
 have key:=Hk (st:=Rb) (S:=Unit) (B:=Empty) q.l.length (fun k _=>Uw q i (k:Int)) (fun _ s=>.inl s) (fun _=>Acv q i) (fun _ _=>True)
  (fun k s hi _=>by
   show (Ya q i (k:Int)).run=_
   unfold Ya
   rw [decide_eq_true (show (k:Int)<(q.l.length:Int) by omega),G9 (by omega),E2 (by omega),E2 (by omega),Bi (n:=(k:Int)+1) (by omega) (by omega),show Int.toNat (k:Int)=k from rfl]
   cases hk:B7 q.hit k (B9 .b) with
   | true=>rfl
   | false =>
    have e:moT q.t (k:Int)=moT q.s (k:Int):=he k hk
    rw [e,Al1]
    rfl) (fun _ _ _ _ _ _=>trivial) (fun s _=>by
   show (Ya q i (q.l.length:Int)).run=_
   unfold Ya
   rw [decide_eq_false (show ¬ (q.l.length:Int)<(q.l.length:Int) by omega)]
   rfl) q.l.length 0 () (by omega) trivial
 exact key
structure OI (g:TCT cGr) (s0 t0:TCT cSt) (n i:Nat) (q:QTc):Prop where
 el:q.l.length=n
 eg:q.g=Eh g
 es:q.s=s0
 eu:q.sum=totR g t0
 ec:CI g s0 t0 i q.t q.ks q.hit
theorem B8i {t:Int}:Int.tmod (W64 t) 31≤30:=by
 have:=Int.tmod_lt_of_pos (W64 t) (show (0:Int)<31 by decide)
 omega
theorem Ape {g:TCT cGr} {s0 t0:TCT cSt} {n i:Nat} {q:QTc} (hs:(g.1.1.size:Int)≤Bo .i64) (hl:Aae g.1) (h0:StaOk g s0) (h1:StaOk g t0) (hn:(A3 g).length=n) (hi:i≤30) (o:OI g s0 t0 n i q) (hd:(i:Int)≤Int.tmod (W64 q.tk) 31) :
  (N6 TickV totR (Oj q (i:Int))).run=some (.inr (N5 true))∨∃ q',(N6 TickV totR (Oj q (i:Int))).run=some (.inl (Oj q' ((i+1:Nat):Int)))∧q'.tk=q.tk∧OI g s0 t0 n (i+1) q':=by
 obtain ⟨l,tk,qg,qs,t,ks,sum,hit⟩:=q
 obtain ⟨ol,og,os,osum,c⟩:=o
 simp only at ol og os osum c
 subst og
 subst osum
 cases os
 have hn8:=h0.n8
 show (Uy TickV totR ⟨l,tk,Eh g,s0,t,ks,totR g t0,hit⟩ (i:Int)).run=_∨∃ q',(Uy TickV totR ⟨l,tk,Eh g,s0,t,ks,totR g t0,hit⟩ (i:Int)).run=_∧_∧_
 unfold Uy
 rw [decide_eq_true hd,cond_true,B8g (q:=⟨l,tk,Eh g,s0,t,ks,totR g t0,hit⟩) (n:=n) ol (c.hl.trans hn) (hn ▸ c.kr) c.kl]
 cases ha:(ks:Kns).any nbK with
 | true=>exact .inl rfl
 | false =>
  rw [cond_false]
  show (A7p TickV totR ⟨l,tk,Eh g,s0,t,[],totR g t0,P1 hit ks⟩ (i:Int)).run=_∨∃ q',(A7p TickV totR ⟨l,tk,Eh g,s0,t,[],totR g t0,P1 hit ks⟩ (i:Int)).run=_∧_∧_
  have e1:A7p TickV totR ⟨l,tk,Eh g,s0,t,[],totR g t0,P1 hit ks⟩ (i:Int)=Ap7 ⟨l,tk,Eh g,s0,t,[],totR g t0,P1 hit ks⟩ (i:Int) (TickV g t):=by
   unfold A7p
   rw [show szT (lwG (Eh g)) _=_ from Dh (l:=g.1) hs]
   show (bif Db g t != 0 then _ else bif !Ago (totR g t) (totR g t0) then _ else bif ((t.1:B5).length:Int)!=(l.length:Int) then _ else B5r TickV (iter Rb (l.length+1) (Uw ⟨l,tk,Eh g,s0,t,[],totR g t0,P1 hit ks⟩ (i:Int) 0)):A52)=_
   have hm:(t.1:B5).length=n:=c.a.m.trans hn
   have hm0:(s0.1:B5).length=n:=h0.m.trans hn
   rw [Zp c.a,A7r c.a,A7r h1,Az3 (Af0 c.a) (Af0 h1) (fun f p=>c.d ha f p),hm,ol,bne_self_eq_false]
   simp only [Bool.not_true,cond_false]
   rw [← ol,B8h (q:=⟨l,tk,Eh g,s0,t,[],Yv (msT t0),P1 hit ks⟩) (n:=n) (by omega) ol ((Zw _ _).trans (c.hl.trans hn)) hm hm0 (fun k hk=>by
    have hk:Di (P1 hit ks) k=false:=hk
    rw [A69 ks hit c.hl (Avw c.kr ha),Bool.or_eq_false_iff] at hk
    exact (c.e k hk.1 hk.2).1)]
   show (szT (lwG (Eh g)) (Ap7 ⟨l,tk,Eh g,s0,t,[],Yv (msT t0),P1 hit ks⟩ (i:Int) (TickV g t)):A52)=_
   rw [show szT (lwG (Eh g)) _=_ from Dh (l:=g.1) hs]
  rw [e1]
  rcases Apd c.a (by rw [c.tk];exact fun e=>by have e:(i:Int)=4000:=e;omega) with e | ⟨r,hf,e⟩
  ·rw [e];exact .inl rfl
  ·rw [e]
   refine .inr ⟨⟨l,tk,Eh g,s0,nxS t r,r.2.2,totR g t0,P1 hit ks⟩,?_,rfl,ol,rfl,rfl,rfl,c.tick hl (by omega) ha hf⟩
   show some (Sum.inl (Oj ⟨l,tk,Eh g,s0,nxS t r,r.2.2,totR g t0,P1 hit ks⟩ (W64 ((i:Int)+1))))=_
   rw [Bi (n:=(i:Int)+1) (by omega) (by omega)]
   rfl
theorem Apf {g:TCT cGr} {s0 t0:TCT cSt} {n:Nat} (hs:(g.1.1.size:Int)≤Bo .i64) (hl:Aae g.1) (h0:StaOk g s0) (h1:StaOk g t0) (hn:(A3 g).length=n):∀ (k i m:Nat) (q:QTc),i+k=31→k+1≤m→OI g s0 t0 n i q→∃ y,iter (N6 TickV totR) m (Oj q (i:Int))=some y∧(y=N5 true∨y=Acw)
 | k,i,0,q,_,hm,_=>by omega
 | k,i,m+1,q,hk,hm,o=>by
  cases hd:decide ((i:Int)≤Int.tmod (W64 q.tk) 31) with
  | false =>
   refine ⟨Acw,Jl ?_,.inr rfl⟩
   show (Uy TickV totR q (i:Int)).run=_
   unfold Uy
   rw [hd]
   rfl
  | true =>
   have hd':=of_decide_eq_true hd
   have h30:=B8i (t:=q.tk)
   rcases Ape hs hl h0 h1 hn (by omega) o hd' with e | ⟨q',e,_,o'⟩
   ·exact ⟨_,Jl e,.inl rfl⟩
   ·cases k with
    | zero=>omega
    | succ k =>
     obtain ⟨y,e2,hy⟩:=Apf hs hl h0 h1 hn k (i+1) m q' (by omega) (by omega) o'
     exact ⟨y,(Y4 e).trans e2,hy⟩
def bwN (x y p k:Int):TCT cBl:=(0,(x,(bif x==0&&(y==0&&true) then 1 else y),()),p,k,())
theorem B8j {x y p k n:Int} (h1 : -32768≤x∧x≤32767) (h2 : -32768≤y∧y≤32767) (h3:1≤p∧p≤2097152) (h4:0≤k∧k≤4) (hn:1≤n):bwB n (bwN x y p k)=false:=by
 unfold bwB bwN
 simp only
 have hf:fpt x (bif x==0&&(y==0&&true) then 1 else y)=true:=by
  cases x==0&&(y==0&&true) <;> exact decide_eq_true (by simp only [cond_true,cond_false];omega)
 have hz:(x==0&&((bif x==0&&(y==0&&true) then 1 else y)==0&&true))=false:=by
  cases hx:x==0 with
  | false=>rfl
  | true =>
   cases hy:y==0 with
   | true=>rfl
   | false=>simp only [Bool.true_and,Bool.false_and,cond_false,hy]
 rw [hf,hz,decide_eq_false (show ¬ (0:Int)<0 by decide),decide_eq_false (show ¬ (0:Int)≥n by omega),decide_eq_false (show ¬ (p<1) by omega),decide_eq_false (show ¬ (p>2097152) by omega),decide_eq_false (show ¬ (k<0) by omega),decide_eq_false (show ¬ (k>4) by omega)]
 rfl
theorem Bdw {p:Int} (h3:0≤p∧p≤4294967295):W64 (1+Int.tmod (W64 p) 2097152)=1+p % 2097152:=by
 rw [Bi (n:=p) (by omega) (by omega),Int.tmod_eq_emod_of_nonneg h3.1,Bi (n:=1+p % 2097152) (by omega) (by omega)]
theorem Bdx {k:Int} (h4:0≤k∧k≤255):Int.tmod (W64 k) 5=k % 5:=by
 rw [Bi (n:=k) (by omega) (by omega),Int.tmod_eq_emod_of_nonneg h4.1]
theorem Bdy (p:Int):1≤1+p % 2097152∧1+p % 2097152≤2097152:=by omega
theorem Bik (k:Int):0≤k % 5∧k % 5≤4:=by omega
theorem w16 {x:Int} (h : -32768≤x∧x≤32767):W64 x=x:=Bi (by omega) (by omega)
theorem B8k {w:TCT Qk} (hw:WFD Qk w):Ic w 0=bwN w.1 w.2.1 (1+w.2.2.1 % 2097152) (w.2.2.2.1 % 5):=by
 unfold Ic bwN
 rw [Bdw hw.2.2.1,Bdx hw.2.2.2.1,w16 hw.1,w16 hw.2.1]
theorem B8l {w:TCT Qk} (hw:WFD Qk w) {n:Int} (hn:1≤n):bwB n (Ic w 0)=false:=by
 rw [B8k hw]
 exact B8j hw.1 hw.2.1 (Bdy _) (Bik _) hn
theorem B8m {d s:Int} {x:TCT D3} {l:List (TCT F7)} (h:Oi d s x l=true):∃ ps,Uu d s l=.inl ps∧(Gj (gN d s x ps.length) ps).2.1=0∧(msT (Gj (gN d s x ps.length) ps).1).length=l.length:=by
 unfold Oi at h
 cases ho:Uu d s l with
 | inr ps=>rw [ho] at h;cases h
 | inl ps =>
  rw [ho] at h
  have h:Aow l (Gj (gN d s x ps.length) ps)=true:=h
  unfold Aow at h
  rw [Bool.and_eq_true,Bool.and_eq_true] at h
  refine ⟨ps,rfl,beq_iff_eq.1 h.1,?_⟩
  have:=beq_iff_eq.1 h.2.1
  omega
theorem B8n {d s:Int} {x:TCT D3} {l:List (TCT F7)} (h:Oi d s x l=true):StaOk (Lf d s x l) (O1 d s x l)∧C2 (O1 d s x l)=true∧(∀ j:Nat,Di (osT (O1 d s x l)) j=false)∧(A3 (Lf d s x l)).length=l.length∧(Lf d s x l).1=grn d s:=by
 obtain ⟨ps,ho,he,hm⟩:=B8m h
 obtain ⟨a,b,c,e⟩:=Bc9 he
 unfold Lf O1
 rw [ho]
 exact ⟨a,b,c,a.m.symm.trans hm,rfl⟩
theorem B8o {l:List (TCT F7)} {w:TCT Qk} {tk:Int} (x:TCT D3) (hw:WFD Qk w) (h0:(l.length:Int)≠0) (h4:¬ (l.length:Int)>4):(Apc skV TickV totR l tk (Lf 0 0 x l) (O1 0 0 x l) (Oi 0 0 x l) (Ic w 0)).sat (fun _=>True):=by
 unfold Apc
 cases hb:Oi 0 0 x l with
 | false=>exact trivial
 | true =>
  obtain ⟨hS,hst,hout,hlen,hgr⟩:=B8n hb
  have hf:Aae (Lf 0 0 x l).1:=by rw [hgr];exact Bdv
  have hs:((Lf 0 0 x l).1.1.size:Int)≤Bo .i64:=by rw [hgr];exact Y9 0 0
  generalize Lf 0 0 x l=g at *
  generalize O1 0 0 x l=s at *
  rw [Bool.not_true,cond_false,Dh hs]
  have hbw:bwB ((A3 g).length:Int) (Ic w 0)=false:=B8l hw (by omega)
  have k:SkOk g s (Ic w 0):=⟨hS,Atw hbw,hst,hout _⟩
  unfold B5t
  cases he:(skV g s (Ic w 0)).2.2.1 != 0 with
  | true =>
   rw [Bc7 k hbw (bne_iff_ne.1 he)]
   exact trivial
  | false =>
   have he':=bne_eq_false_iff_eq.1 he
   obtain ⟨t1,_⟩:=Av1 he'
   rw [cond_false,Dh hs]
   show Tree.sat _ (bif Db g (skV g s (Ic w 0)).1 != 0 then .fail else Apb TickV totR l tk g s (skV g s (Ic w 0)).1 (skV g s (Ic w 0)).2.1 (totR g (skV g s (Ic w 0)).1))
   rw [Zp t1,cond_false]
   unfold Apb
   rw [decide_eq_true (by omega),cond_true,G9 (by rw [List.length_replicate];omega)]
   have hh:(A7q l.length).length=(A3 g).length:=by
    unfold A7q
    rw [C7,List.length_replicate,hlen];omega
   have hz:Di (A7q l.length) (Int.toNat (Ic w 0).1)=true:=by
    show Di (A7q l.length) 0=true
    unfold A7q
    rw [Te (by rw [List.length_replicate];omega),show decide (0=Int.toNat 0)=true from rfl,Bool.or_true]
   have ci:=CI.zero (w:=Ic w 0) he' hh hz
   obtain ⟨y,e,hy⟩:=Apf (n:=l.length) hs hf hS t1 hlen 31 0 40 ⟨l,tk,Eh g,s,(skV g s (Ic w 0)).1,(skV g s (Ic w 0)).2.1,totR g (skV g s (Ic w 0)).1,A7q l.length⟩ (by omega) (by omega) ⟨rfl,rfl,rfl,rfl,ci⟩
   rw [show iter (N6 TickV totR) 40 (Oj ⟨l,tk,Eh g,s,(skV g s (Ic w 0)).1,(skV g s (Ic w 0)).2.1,totR g (skV g s (Ic w 0)).1,A7q l.length⟩ 0)=some y from e]
   rcases hy with rfl | rfl
   ·exact trivial
   ·exact trivial
theorem B8p {l:List (TCT F7)} {w:TCT Qk} {r tk:Int} (hw:WFD Qk w):(Az1 Lf O1 Oi Ic skV TickV totR l w r tk).sat (fun _=>True):=by
 unfold Az1
 cases c0:(l.length:Int)==0 with
 | true=>exact trivial
 | false =>
  cases c4:decide ((l.length:Int)>4) with
  | true=>exact trivial
  | false =>
   have h4:=of_decide_eq_false c4
   have h0:(l.length:Int)≠0:=fun e=>by rw [e] at c0;cases c0
   rw [cond_false,cond_false,decide_eq_true (show l.length≤1000 by omega),cond_true]
   exact B8o _ hw h0 h4
end Tp
open Tp
theorem topConserved_sat:LawSat X_topConserved 3 cs_topConserved 10:=Axz 10 (fun y=>Az1 Lf O1 Oi Ic St.skV St.TickV St.totR y.1 y.2.1 y.2.2.1 y.2.2.2.1) (Az2 Lf O1 Oi Ic St.skV St.TickV St.totR) fun _ hw=>B8p hw.2.1
end V
end Go.Proofs.YtcfanlgpkefogaaGreat
namespace Go.Proofs.YtcfanlgpkefogaaGreat.topConserved
open Go.ChangeShapes Go.WideShapes Go.ChangeAt Go.RowKit
theorem own:ownKnob Tryz.prog.godebug=none:=by kernel_rfl
theorem laid:laidOutB Tryz.prog=true:=by kernel_rfl
set_option maxRecDepth 100000 in
theorem lifted (os:Os) (started:os.Started) (H:Type) (enc:TypeId×Value→H) :
  ReturnsInHanded {} Tryz.checked os 3 .any (Rows.topConservedSpec.pre6 enc Tryz.prog Tryz.f3 Rows.topConservedRow.domain false) (Rows.topConservedSpec.post enc Tryz.prog Tryz.f3 false true false false):=by
 refine returnsInHanded_of_change (C:=Tryz.checked) own started (by kernel_rfl) Tryz.func3
  (ChangeSpec.witness6 (enc:=enc) (C:=Tryz.checked) false ⟨#[],#[.slice none 0 0,.agg #[.int .i16 0,.int .i16 0,.int .u32 0,.int .u8 0],.int .u16 0,.int .u8 0],[]⟩ 8 (by kernel_rfl) (by kernel_rfl) (by kernel_rfl) (by kernel_rfl)) ?_
 intro W base args ds gs before hval0 hW hcnd _
 exact V.law_contract (X:=V.X_topConserved) V.X_topConserved_ok (P:=Tryz.prog) (by rfl) laid (fn:=Tryz.f3) V.cs_topConserved 10 (by rfl) (by kernel_rfl) (by kernel_rfl) Tryz.underlying4
  4 (by kernel_rfl) (fun ds h=>by match ds,h with | [_,_,_,_],_=>rfl) V.topConserved_sat hval0 hW
theorem proved:Rows.TopConservedSaid :=
 OpenClaim.holds_of_wide 3 Tryz.f3 rfl rfl rfl rfl rfl rfl rfl ⟨rfl,rfl,rfl,rfl,rfl⟩ rfl rfl rfl rfl rfl (by kernel_rfl) Tryz.func3 (by kernel_rfl)
  (of_decide_eq_true (by kernel_rfl)) (by unfold Func.isWrapper;first | (rw [if_pos (by decide +kernel)];kernel_rfl) | (rw [if_neg (by decide +kernel)];exact ⟨rfl,rfl⟩))
  (fun os started H enc _=>lifted os started H enc)
#print axioms proved
end Go.Proofs.YtcfanlgpkefogaaGreat.topConserved
