import Derived.Test.YtcfanlgpkefogaaGreatKu
namespace Go.Proofs.YtcfanlgpkefogaaGreat
open Go.RowKit
namespace V
namespace Tp
open St
noncomputable def Ajd:Code:=(Ak (bodyOf Tryz.f7)).getD 0 .skip
abbrev Bc0:List SK:=[.d cI,.d cI]
abbrev Bha:List BK:=[(3,41,kGr),(4,70,Bc0),(11,45,kSt)]
def Aew:Lay:={ keys:=[3,11,12,22,23,24,25,27],ks:=[.d .b,.p 3 0 0 0,.p 4 0 0 0,.p 11 0 0 0,.d (.sl cKn),.d (.sl cPt),.d .b,.d cI],bs:=Bha,n:=240,nx:=1000,marks:=[] }
def Bky:Lay:={ keys:=[3,11,12,22,23,24,25],ks:=[.d .b,.p 3 0 0 0,.p 4 0 0 0,.p 11 0 0 0,.d (.sl cKn),.d (.sl cPt),.d .b],bs:=Bha,n:=240,nx:=1000,marks:=[] }
def Bhb:Lay:={ keys:=[10],ks:=[.d .b],bs:=[],n:=240,nx:=1000,marks:=[] }
def Aex:XE→Lay:=fun e=>match e with | .ret=>Bhb | _=>Bky
abbrev TTp:=Tree (Aew.T⊕A0 Aex)
structure QTp where
 bk:Bool
 g:SKTs kGr
 b:SKTs Bc0
 u:SKTs kSt
 ks:Kns
 t:Trk
 st:Bool
def Aac (q:QTp) (i:Int):Aew.T:=((q.bk,(),(),(),q.ks,q.t,q.st,i,()),(q.g,q.b,q.u,()))
def B7e (q:QTp):A0 Aex:=⟨.exit 0,((q.bk,(),(),(),q.ks,q.t,q.st,()),(q.g,q.b,q.u,()))⟩
def Bhc:A0 Aex:=⟨.ret,((false,()),())⟩
def B7f (ks:Kns) (i:Int):TCT cKn:=B7 ks (Int.toNat i) (B9 cKn)
def Avf (q:QTp) (i:Int):TTp:=bif decide (i<(q.ks.length:Int)) then inN q.ks.length i (bif (B7f q.ks i).2.2.1==1 then inN q.ks.length i (bif decide ((B7f q.ks i).2.2.2.2.1<2) then .leaf (.inr Bhc) else .leaf (.inl (Aac q (W64 (i+1))))) else .leaf (.inl (Aac q (W64 (i+1))))) else .leaf (.inr (B7e q))
def A3v (x:Aew.T):TTp:=Avf ⟨x.1.1,x.2.1,x.2.2.1,x.2.2.2.1,x.1.2.2.2.2.1,x.1.2.2.2.2.2.1,x.1.2.2.2.2.2.2.1⟩ x.1.2.2.2.2.2.2.2.1
def Avg (x:Aew.T):Nat:=(x.1.2.2.2.2.1:Kns).length+1
noncomputable def Bhd:Ctx:=ctx Tryz.prog [] []
theorem Avh:CtxOk Bhd:=B6 Aw puOk_nil A1
theorem Bkz:Bc Tryz.prog 7 Ajd (Bd Aew Aex (E5 [.ret,.exit 0] A3v Avg)):=Bv Avh 7 _ Aew Aex (fun e=>by cases e <;> exact Nat.le_refl _) [.ret,.exit 0] A3v Avg (fun g=>by kernel_rfl)
theorem Bc1:keyOf Ajd=27:=by kernel_rfl
theorem Avi:Ak (bodyOf Tryz.f7)=[Ajd]:=by kernel_rfl
def rdA (a:Int):Int:=W64 (1000+Int.tmod (W64 a) 3097)
def wyA (a b:Int):Int:=W64 (W64 (W64 (500+rdA a)+1)+Int.tmod (W64 b) 4000)
def pwA (c:Int):Int:=W64 (200000+W64 (8*W64 c))
def atA (ax ay a b:Int):TCT cPt:=(W64 (50000-W64 (ax*wyA a b)),W64 (40000-W64 (ay*wyA a b)),())
def Avj (R:Bool×Int) (D:Int×Int) (st:Bool) (n:Int):Tree Unit:=bif R.2 != 0 then .fail else bif D.2 != 0 then .fail else bif !st then Sm else bif decide (n>0) then Sm else bif R.1==(D.1==3) then Sm else .fail
def Avk (R:Xd) (D:Xe) (bk:Bool) (g:SKTs kGr) (b:SKTs Bc0) (u:SKTs kSt) (ks:Kns) (t:Trk) (st:Bool):Tree Unit :=
 bif decide ((g.1.size:Int)≤Bo .i64) then inN u.1.length 0 (bif decide ((g.1.size:Int)≤Bo .i64) then Avj (R (lwG g) 0 (!bk) b.2.1 t) (D (lwG g) 0 (!bk) (A8 u.1 (Int.toNat 0)).1 b.2.1) st ks.length else .fail) else .fail
def B7g (R:Xd) (D:Xe) (y:Option (A0 Aex)):Tree Unit:=bif isE .ret y then (bif (D4 .ret y).1.1 then Sm else .fail) else bif isE (.exit 0) y then Avk R D (D4 (.exit 0) y).1.1 (D4 (.exit 0) y).2.1 (D4 (.exit 0) y).2.2.1 (D4 (.exit 0) y).2.2.2.1 (D4 (.exit 0) y).1.2.2.2.2.1 (D4 (.exit 0) y).1.2.2.2.2.2.1 (D4 (.exit 0) y).1.2.2.2.2.2.2.1 else .fail
def Aje (R:Xd) (D:Xe) (bk al:Bool) (r:Int) (p:TkR) (t:TrR) (s:Bool×Int):Tree Unit:=bif p.2.2.1 != 0 then .fail else bif t.2.1 != 0 then .fail else bif s.2 != 0 then .fail else bif ((msT p.1).length:Int)!=1 then .fail else
 B7g R D (iter A3v (p.2.1.length+1) (Aac ⟨bk,Eh (Ei al r),(450,r,()),Ou p.1,p.2.1,t.1,s.1⟩ 0))
def Avl (P:FPl) (T:A63) (S:A64) (R:Xd) (D:Xe) (bk al:Bool) (r:Int) (f:TkR):Tree Unit:=bif f.2.2.1 != 0 then .fail else Aje R D bk al r (P (Ei al r) (St.etaS f.1) 120) (T (Ei al r) (St.etaS f.1) 0 120) (S (Ei al r) (St.etaS (P (Ei al r) (St.etaS f.1) 120).1))
def B7h (F:FSk) (P:FPl) (T:A63) (S:A64) (R:Xd) (D:Xe) (bk al:Bool) (ax ay r c:Int) (ps:Bool×Int) (s:TCT cSt×Int):Tree Unit:=bif ps.2 != 0 then .fail else bif s.2 != 0 then .fail else bif !(ps.1==decide (6000≥W64 (2*r))) then .fail else bif !ps.1 then Sm else Avl P T S R D bk al r (F (Ei al r) (St.etaS s.1) (0,(ax,ay,()),pwA c,0,()))
def A3w (A:Aeu) (L:Aet) (F:FSk) (P:FPl) (T:A63) (S:A64) (R:Xd) (D:Xe) (bk al:Bool) (ax ay a b c:Int):Tree Unit:=B7h F P T S R D bk al ax ay (rdA a) c (A (G4 al) 0 (rdA a)) (L (Ei al (rdA a)) [atA ax ay a b])
def B37 (A:Aeu) (L:Aet) (F:FSk) (P:FPl) (T:A63) (S:A64) (R:Xd) (D:Xe) (a b c:Int) (bk al:Bool):Tree Unit:=bif al then bif bk then A3w A L F P T S R D bk al (W64 (0-1)) (W64 (0-0)) a b c else A3w A L F P T S R D bk al 1 0 a b c else bif bk then A3w A L F P T S R D bk al (W64 (0-0)) (W64 (0-1)) a b c else A3w A L F P T S R D bk al 0 1 a b c
end Tp
open Tp
noncomputable def Qu (A:Aeu) (L:Aet) (F:FSk) (P:FPl) (T:A63) (S:A64) (R:Xd) (D:Xe):Ctx:=Ie Tryz.prog (plTr5 A L F P T S R D) [(26,Tryz.f26),(7,Tryz.f7)] [((7,27),Bd Aew Aex (E5 [.ret,.exit 0] A3v Avg))]
noncomputable def X_topThrough:Ctx:=Qu A66 A65 St.skV St.PlayV A2h Xf Rm Rn
theorem X_topThrough_ok:CtxOk X_topThrough:=D6 Aw puTr5 (fns_cons is_green (fns_cons is_TopThrough A1)) (Bj (Br (by kernel_rfl)) (Bj (Jd (ds:=[Ajd]) Avi ⟨Hh (k:=27) Bc1 rfl Bkz,trivial⟩) Gk))
theorem B38 (A:Aeu) (L:Aet) (F:FSk) (P:FPl) (T:A63) (S:A64) (R:Xd) (D:Xe) (y:TCTs cs_topThrough):E1 (Qu A L F P T S R D) 10 (.fn 7) (Eg cs_topThrough y) Ck 0 Ac8=B37 A L F P T S R D y.1 y.2.1 y.2.2.1 y.2.2.2.1 y.2.2.2.2.1:=by kernel_rfl
end V
end Go.Proofs.YtcfanlgpkefogaaGreat
namespace Go.Proofs.YtcfanlgpkefogaaGreat
open Go.RowKit
namespace V
namespace Tp
open St
theorem B7i {al:Bool} {R:Int} (hR:1000≤R∧R≤4096):groE (Ei al R)=0:=by
 have e:okG (Ei al R)=true:=by
  unfold okG
  show ((I5 450 R&&true)&&Hl 600 0)=true
  unfold I5 Bu
  rw [decide_eq_false (show ¬ R<1000 by omega),decide_eq_false (show ¬ 4096<R by omega)]
  decide
 unfold groE
 rw [show Co (Ei al R).1=0 from Mn al,e]
 rfl
theorem Avm {al b:Bool} {R u k r tk:Int} (hR:1000≤R∧R≤4096) (hu:0≤u∧u≤100000) (hk:0≤k∧k≤724280) (hr : -14400≤r∧r≤14399) (ht:0≤tk∧tk≤4000):Db (Ei al R) (Dk al b u k r tk)=0:=by
 have f:=A6m (A67 (al:=al) (c:=cA al) hR P0 hu (Wd (b:=b) hk.1 hk.2) hr)
 have on:=(A3t (al:=al) (c:=cA al) P0 hu).1
 have e1:I0 (St.okS (Ei al R) [false]) 0 [axM al (cA al) u (sg b k) r]=true:=by
  show ((M5 (Hp R) (axM al (cA al) u (sg b k) r)&&onB (G4 al) (atM (axM al (cA al) u (sg b k) r)))&&true)=true
  have e2:M5 (Hp R) (axM al (cA al) u (sg b k) r)=true:=f
  have e3:atM (axM al (cA al) u (sg b k) r)=ptA al (cA al) u:=by cases al <;> rfl
  rw [e2,e3,on];rfl
 unfold Db
 rw [B7i hR]
 show vaE (Ei al R) (Dk al b u k r tk)=0
 unfold vaE
 rw [show Yr (Ei al R) (Dk al b u k r tk)=true from rfl,show I0 (St.okS (Ei al R) (osT (Dk al b u k r tk))) 0 (msT (Dk al b u k r tk))=true from e1]
 have e4:A28 ((A3 (Ei al R)).length:Int) (Dk al b u k r tk)=false:=Aum (n:=1) (a:=0) (b:=0) (c:=tk) ⟨by decide,by decide⟩ ⟨by decide,by decide⟩ ht
 rw [e4];rfl
theorem Bhe {al:Bool} {R u:Int} (hR:1000≤R∧R≤4096) (hu:0≤u∧u≤100000) (b:Bool):Gj (Ei al R) [ptA al (cA al) u]=(Dk al b u 0 0 0,0,()):=by
 unfold Gj
 rw [B7i hR]
 have on:As0 (Ei al R).1 [ptA al (cA al) u] 0=true:=by
  have:=(A3t (al:=al) (c:=cA al) P0 hu).1
  show onB (G4 al) (Adn (ptA al (cA al) u))=true
  have e:Adn (ptA al (cA al) u)=ptA al (cA al) u:=by cases al <;> rfl
  rw [e];exact this
 have e:f_li (Ei al R).1 [ptA al (cA al) u] 0 []=.inl [A8z (ptA al (cA al) u)]:=by
  unfold f_li
  rw [on];rfl
 show B9n [ptA al (cA al) u] (B8 (f_li (Ei al R).1 [ptA al (cA al) u]) 0 1 [])=_
 rw [Mo e]
 have m:A8z (ptA al (cA al) u)=axM al (cA al) u (sg b 0) 0:=by rw [Xs];cases al <;> rfl
 rw [m];rfl
def axX (al b:Bool):Int:=bif al then sg b 1 else 0
def axY (al b:Bool):Int:=bif al then 0 else sg b 1
theorem Bl0:rt (1*4096)=64:=Vf _ _ (by decide) (by decide) (by decide)
theorem Bl1 {x:Int}:DW (64*x*1) 64=x∧DW (64*x * -1) 64 = -x∧DW (64*x*0) 64=0:=⟨(Ip _ 64 x 0 (by decide) (by omega) (by decide) (by decide)).1,(Ip _ 64 (-x) 0 (by decide) (by omega) (by decide) (by decide)).1,(Ip _ 64 0 0 (by decide) (by omega) (by decide) (by decide)).1⟩
theorem Bl2 {al b:Bool} {p:Int} (hp:1≤p∧p≤724280):TwR (axX al b) (axY al b) 0 0 p=((axX al b*p,axY al b*p),0):=by
 have ho:Bu p 0 4194304=false:=by
  unfold Bu
  rw [decide_eq_false (show ¬ p<0 by omega),decide_eq_false (show ¬ 4194304<p by omega)];rfl
 obtain ⟨d1,d2,d3⟩:=Bl1 (x:=p)
 have key:∀ x y:Int,((x=1∨x = -1)∧y=0)∨(x=0∧(y=1∨y = -1))→TwR x y 0 0 p=((x*p,y*p),0):=by
  intro x y h
  have ed:dTo x y 0 0=64:=by
   unfold dTo
   rw [show sq x y 0 0=1 by rcases h with ⟨h1 | h1,h2⟩ | ⟨h1,h2 | h2⟩ <;> (rw [h1,h2];rfl)]
   exact Bl0
  have ex:ToX x 0 64 p=x*p:=by
   unfold ToX
   rw [Int.sub_zero,Int.zero_add]
   rcases h with ⟨h1 | h1,h2⟩ | ⟨h1,h2⟩
   ·rw [h1,d1,Int.one_mul]
   ·rw [h1,d2];omega
   ·rw [h1,d3,Int.zero_mul]
  have ey:ToX y 0 64 p=y*p:=by
   unfold ToX
   rw [Int.sub_zero,Int.zero_add]
   rcases h with ⟨h1,h2⟩ | ⟨h1,h2 | h2⟩
   ·rw [h2,d3,Int.zero_mul]
   ·rw [h2,d1,Int.one_mul]
   ·rw [h2,d2];omega
  have f1:fpt x y=true:=decide_eq_true (by rcases h with ⟨h1 | h1,h2⟩ | ⟨h1,h2 | h2⟩ <;> omega)
  have f2:fpt (x*p) (y*p)=true:=decide_eq_true (by
   rcases h with ⟨h1 | h1,h2⟩ | ⟨h1,h2 | h2⟩ <;> (rw [h1,h2];omega))
  have ne:(x==0&&y==0)=false:=by
   rcases h with ⟨h1 | h1,h2⟩ | ⟨h1,h2 | h2⟩ <;> (rw [h1,h2];rfl)
  unfold TwR
  rw [f1,show fpt 0 0=true by decide,ho,ne,ed,ex,ey,f2]
  rfl
 refine key _ _ ?_
 unfold axX axY sg
 cases al <;> cases b
 ·exact .inr ⟨rfl,.inl rfl⟩
 ·exact .inr ⟨rfl,.inr rfl⟩
 ·exact .inl ⟨.inl rfl,rfl⟩
 ·exact .inl ⟨.inr rfl,rfl⟩
def blA (al b:Bool) (p:Int):TCT cBl:=(0,(axX al b,axY al b,()),p,0,())
theorem Bl3 {al b:Bool} {p:Int} (hp:1≤p∧p≤724280):bwB 1 (blA al b p)=false:=by
 unfold bwB
 show (decide ((0:Int)<0)||(decide ((0:Int)≥1)||(!fpt (axX al b) (axY al b)||((axX al b==0&&(axY al b==0&&true))||(decide (p<1)||(decide (p>2097152)||(decide ((0:Int)<0)||decide ((0:Int)>4))))))))=false
 rw [decide_eq_false (show ¬ p<1 by omega),decide_eq_false (show ¬ p>2097152 by omega)]
 cases al <;> cases b <;> decide
theorem Avn {al b:Bool} {R u p:Int} (hR:1000≤R∧R≤3000) (hu:0≤u∧u≤100000) (hp:1≤p∧p≤724280):skV (Ei al R) (Dk al b u 0 0 0) (blA al b p)=(Dk al b u p 0 0,[],0,()):=by
 have R4:1000≤R∧R≤4096:=by omega
 have tw:=Bl2 (al:=al) (b:=b) hp
 have e1:twP (blA al b p)=(axX al b*p,axY al b*p,()):=by
  show ((TwR (axX al b) (axY al b) 0 0 p).1.1,(TwR (axX al b) (axY al b) 0 0 p).1.2,())=_
  rw [tw]
 have e2:K1 [axM al (cA al) u (sg b 0) 0] 0 (twP (blA al b p))=[axM al (cA al) u (sg b p) 0]:=by
  rw [e1]
  show [((axM al (cA al) u (sg b 0) 0).1,(axX al b*p,axY al b*p,()),(axM al (cA al) u (sg b 0) 0).2.2.1,())]=_
  unfold axX axY axM sg
  cases al <;> cases b
  ·show [((cA false,u,()),(0*p,1*p,()),(0,0,()),())]=[((cA false,u,()),(0,p,()),(0,0,()),())]
   rw [Int.zero_mul,Int.one_mul]
  ·show [((cA false,u,()),(0*p,-1*p,()),(0,0,()),())]=[((cA false,u,()),(0,-p,()),(0,0,()),())]
   rw [Int.zero_mul,show -1*p = -p by omega]
  ·show [((u,cA true,()),(1*p,0*p,()),(0,0,()),())]=[((u,cA true,()),(p,0,()),(0,0,()),())]
   rw [Int.zero_mul,Int.one_mul]
  ·show [((u,cA true,()),(-1*p,0*p,()),(0,0,()),())]=[((u,cA true,()),(-p,0,()),(0,0,()),())]
   rw [Int.zero_mul,show -1*p = -p by omega]
 have f:=A6m (A67 (al:=al) (c:=cA al) (r:=0) R4 P0 hu (Wd (b:=b) (show 0≤p by omega) hp.2) (by decide))
 unfold skV
 rw [Avm R4 hu (by decide) (by decide) (by decide),show bwB ((A3 (Ei al R)).length:Int) (blA al b p)=false from Bl3 hp,Bh8,Xs]
 show skG (Ei al R) (Dk al b u 0 0 0) (blA al b p)=_
 unfold skG
 show skF [false] (blA al b p) (seF [Hp R] (600,0,()) 0 0 0 0 1 (K1 [axM al (cA al) u (sg b 0) 0] 0 (twP (blA al b p)),[false],[]))=_
 rw [e2,Av7 f (by decide)]
 rfl
theorem play_A {al b:Bool} {R u p:Int} (hR:1000≤R∧R≤3000) (hu : -7500≤u-hA al∧u-hA al≤7500) (hp:1≤p∧p≤724280):∃ k' u' r' tk' us,PlayV (Ei al R) (Dk al b u p 0 0) 120=(Dk al b u' k' r' tk',[],0,())∧A2h (Ei al R) (Dk al b u p 0 0) 0 120=(M7 al us,0,())∧Chn al us u u'∧us.length≤121∧Db (Ei al R) (Dk al b u' k' r' tk')=0:=by
 have R4:1000≤R∧R≤4096:=by omega
 have hu2:=Zs (al:=al) (u:=u) (by omega)
 have s1:Db (Ei al R) (Dk al b u p 0 0)=0:=Avm R4 (by omega) (by omega) (by decide) (by decide)
 have i1:LnI b u p 0 p u 0:=⟨⟨by rw [Xs];omega,by decide,by decide⟩,by omega,hp.2,Int.le_refl _,by omega⟩
 obtain ⟨k',u',r',tk',us,a1,a2,a3,a4,a5,a6,a7⟩:=Avc (al:=al) (R:=R) (M0:=p) hR (by omega) hu 120 0 0 p u 0 [] (Int.le_refl _) (by decide) i1
 have l:=a3.l
 have d:=a3.d (us.length-1) (by have:=a3.n1;omega)
 rw [l] at d
 have hu3:=Zs d
 refine ⟨k',u',r',tk',us,?_,?_,a3,a4,Avm R4 (by omega) a6 a7 a5⟩
 ·rw [Auo,s1]
  show Aep (rnS (Ei al R) 120 (Dk al b u p 0 0) [])=_
  rw [a1];rfl
 ·show TrackV (Ei al R) (Dk al b u p 0 0) 0 120=_
  rw [Alz,s1]
  show A3q (trS (Ei al R) 0 120 (Dk al b u p 0 0) [] [])=_
  rw [a2];rfl
theorem B39 {q:QTp} (h:q.ks=[]) (n:Nat):iter A3v (n+1) (Aac q 0)=some (B7e q):=by
 refine Jl ?_
 show (Avf q 0).run=_
 unfold Avf
 rw [h]
 rfl
theorem Bhf {al:Bool} {us:List Int} {u v:Int} (c:Chn al us u v) (hl:us.length≤121):A3j (M7 al us)=ptA al (cA al) v:=by
 have n1:=c.n1
 unfold A3j
 rw [Xu,Bi (n:=(us.length:Int)-1) (by omega) (by omega),show Int.toNat ((us.length:Int)-1)=us.length-1 by omega,Ve (by omega),c.l]
theorem Avo (al:Bool):Mm (G4 al) 0=0:=by
 unfold Mm
 rw [Mn];rfl
theorem Bc2 {al b:Bool} {R u v:Int} {us:List Int} (hR:1000≤R∧R≤3000) (c:Chn al us u v) (hl:us.length≤121) (h0:¬ -500≤qA al b u-R):Rm (G4 al) 0 (!b) R (M7 al us)=(decide (-500≤qA al b v-R),0):=by
 have n1:=c.n1
 have d:=c.d (us.length-1) (by omega)
 rw [c.l] at d
 obtain ⟨sd1,sd2⟩:=Avd (b:=b) hR d
 have hq : -25716≤qA al b v∧qA al b v≤25716:=by
  unfold qA sg
  cases b with
  | true=>show -25716 ≤ -(v-hA al) ∧ -(v-hA al)≤25716;omega
  | false=>exact d
 have ha:A9q 0 ((Be (G4 al)).length:Int) R ((M7 al us).length:Int)=false:=by
  unfold A9q
  rw [Xu]
  show (decide ((0:Int)<0)||(decide ((0:Int)≥2)||(decide (R<1)||(decide (R>16384)||(us.length:Int)==0))))=false
  rw [decide_eq_false (show ¬ R<1 by omega),decide_eq_false (show ¬ R>16384 by omega),beq_eq_false_iff_ne.2 (show (us.length:Int)≠0 by omega)]
  decide
 have hb:(M7 al us).any (Jm ())=false:=by
  rw [List.any_eq_false]
  intro p hp
  obtain ⟨x,hx,rfl⟩:=List.mem_map.1 hp
  obtain ⟨i,hi,rfl⟩:=List.mem_iff_getElem.1 hx
  have e:=c.d i hi
  rw [E8 hi] at e
  have e2:=Zs e
  unfold Jm
  rw [(A3t (al:=al) (c:=cA al) P0 (show 0≤us[i]∧us[i]≤100000 by omega)).2]
  decide
 have er:Aeg (G4 al) 0 (!b) R (M7 al us)=(decide (-500≤qA al b v-R),0,()):=by
  unfold Aeg
  rw [Mn,ha,hb,decide_eq_false (show ¬ ((M7 al us).length:Int)>4001 by rw [Xu];omega)]
  show (bif decide (W64 (fwd (!b) (uH (A2i al) (A3j (M7 al us)))-R)<W64 (0-500)) then (false,0,()) else (Ats (A2i al) (!b) R (M7 al us),0,()))=_
  rw [Bhf c hl,sd2,Bi (n:=qA al b v-R) (by omega) (by omega),show W64 (0-500) = -500 by decide]
  by_cases h : -500≤qA al b v-R
  ·rw [decide_eq_false (show ¬ qA al b v-R < -500 by omega),decide_eq_true h,Bh9 hR c h0 h];rfl
  ·rw [decide_eq_true (show qA al b v-R < -500 by omega),decide_eq_false h];rfl
 unfold Rm
 rw [er]
theorem Avp {al b:Bool} {R v:Int} (hR:1000≤R∧R≤3000) (d : -25716≤v-hA al∧v-hA al≤25716):Rn (G4 al) 0 (!b) (ptA al (cA al) v) R=(stq (qA al b v) R,0):=by
 have e2:=Zs d
 have hf:=(A3t (al:=al) (c:=cA al) P0 (show 0≤v∧v≤100000 by omega)).2
 have ei:St.inR R 1 16384=true:=G1.2 ⟨by omega,by omega⟩
 have e:Am5 (G4 al) 0 (ptA al (cA al) v) R=0:=by
  unfold Am5
  rw [Avo,A5j,hf,ei];rfl
 unfold Rn B31
 rw [e]
 show (Im (A2i al) (!b) (ptA al (cA al) v) R,(0:Int))=_
 rw [(Avd (b:=b) hR d).1]
theorem Bc3 (al:Bool):((G4 al).1.size:Int)≤Bo .i64:=by show ((5:Nat):Int)≤9223372036854775807;decide
theorem Bhg {al b:Bool} {a bb c:Int} (ha:0≤a∧a≤65535) (hb:0≤bb∧bb≤65535) (hc:0≤c∧c≤65535):(A3w A66 A65 skV PlayV A2h Xf Rm Rn b al (axX al b) (axY al b) a bb c).sat (fun _=>True):=by
 have er:rdA a=1000+a % 3097:=by
  unfold rdA
  rw [Bi (n:=a) (by omega) (by omega),Int.tmod_eq_emod_of_nonneg ha.1,Bi (by omega) (by omega)]
 have ew:wyA a bb=501+rdA a+bb % 4000:=by
  unfold wyA
  rw [er,Bi (n:=bb) (by omega) (by omega),Int.tmod_eq_emod_of_nonneg hb.1,Bi (n:=500+(1000+a % 3097)) (by omega) (by omega),Bi (n:=500+(1000+a % 3097)+1) (by omega) (by omega),Bi (by omega) (by omega)]
  omega
 have ep:pwA c=200000+8*c:=by
  unfold pwA
  rw [Bi (n:=c) (by omega) (by omega),Bi (n:=8*c) (by omega) (by omega),Bi (by omega) (by omega)]
 have hR:1000≤rdA a∧rdA a≤4096:=by omega
 have hw:501+rdA a≤wyA a bb∧wyA a bb≤4500+rdA a:=by omega
 have ei:St.inR (rdA a) 1 16384=true:=G1.2 ⟨by omega,by omega⟩
 have hpe:A3s (G4 al) 0 (rdA a)=0:=by
  unfold A3s
  rw [Avo,ei];rfl
 have hpa:A66 (G4 al) 0 (rdA a)=(decide (6000≥W64 (2*rdA a)),0):=by
  unfold A66 Aj9
  rw [hpe];rfl
 have hat:atA (axX al b) (axY al b) a bb=ptA al (cA al) (hA al-sg b (wyA a bb)):=by
  unfold atA axX axY
  generalize wyA a bb=w at *
  cases al <;> cases b
  ·show (W64 (50000-W64 (0*w)),W64 (40000-W64 (1*w)),())=(50000,40000-w,())
   rw [Int.zero_mul,Int.one_mul,Bi (n:=w) (by omega) (by omega),Bi (n:=40000-w) (by omega) (by omega)];rfl
  ·show (W64 (50000-W64 (0*w)),W64 (40000-W64 (-1*w)),())=(50000,40000 - -w,())
   rw [Int.zero_mul,show -1*w = -w by omega,Bi (n := -w) (by omega) (by omega),Bi (n:=40000 - -w) (by omega) (by omega)];rfl
  ·show (W64 (50000-W64 (1*w)),W64 (40000-W64 (0*w)),())=(50000-w,40000,())
   rw [Int.zero_mul,Int.one_mul,Bi (n:=w) (by omega) (by omega),Bi (n:=50000-w) (by omega) (by omega)];rfl
  ·show (W64 (50000-W64 (-1*w)),W64 (40000-W64 (0*w)),())=(50000 - -w,40000,())
   rw [Int.zero_mul,show -1*w = -w by omega,Bi (n := -w) (by omega) (by omega),Bi (n:=50000 - -w) (by omega) (by omega)];rfl
 have hsw:=Wd (b:=b) (show 0≤wyA a bb by omega) (show wyA a bb≤8596 by omega)
 have hu0:0≤hA al-sg b (wyA a bb)∧hA al-sg b (wyA a bb)≤100000:=by
  cases al with
  | true=>show 0≤50000-_∧50000-_≤100000;omega
  | false=>show 0≤40000-_∧40000-_≤100000;omega
 have hli:A65 (Ei al (rdA a)) [atA (axX al b) (axY al b) a bb]=(Dk al b (hA al-sg b (wyA a bb)) 0 0 0,0):=by
  unfold A65
  rw [hat,Bhe hR hu0 b]
 unfold A3w B7h
 rw [hpa,hli]
 show (bif !(decide (6000≥W64 (2*rdA a))==decide (6000≥W64 (2*rdA a))) then .fail else bif !decide (6000≥W64 (2*rdA a)) then Sm else Avl PlayV A2h Xf Rm Rn b al (rdA a) (skV (Ei al (rdA a)) (Dk al b (hA al-sg b (wyA a bb)) 0 0 0) (0,(axX al b,axY al b,()),pwA c,0,())):Tree Unit).sat _
 rw [beq_self_eq_true,Bi (n:=2*rdA a) (by omega) (by omega)]
 by_cases hg:6000≥2*rdA a
 ·rw [decide_eq_true hg]
  simp only [Bool.not_true,cond_false]
  have R3:1000≤rdA a∧rdA a≤3000:=by omega
  have hu : -7500≤hA al-sg b (wyA a bb)-hA al∧hA al-sg b (wyA a bb)-hA al≤7500:=by
   have:=Wd (b:=b) (show 0≤wyA a bb by omega) (show wyA a bb≤7500 by omega)
   omega
  have h0:¬ -500≤qA al b (hA al-sg b (wyA a bb))-rdA a:=by
   have e:qA al b (hA al-sg b (wyA a bb)) = -wyA a bb:=by
    unfold qA sg
    cases b with
    | true=>show -(hA al - -wyA a bb-hA al) = -wyA a bb;omega
    | false=>show hA al-wyA a bb-hA al = -wyA a bb;omega
   rw [e];omega
  have hs:=Avn (al:=al) (b:=b) R3 hu0 (show 1≤pwA c∧pwA c≤724280 by omega)
  have hs:skV (Ei al (rdA a)) (Dk al b (hA al-sg b (wyA a bb)) 0 0 0) (0,(axX al b,axY al b,()),pwA c,0,())=_:=hs
  rw [hs]
  obtain ⟨k',u',r',tk',us,a1,a2,a3,a4,a5⟩:=play_A (al:=al) (b:=b) R3 hu (show 1≤pwA c∧pwA c≤724280 by omega)
  have d:=a3.d (us.length-1) (by have:=a3.n1;omega)
  rw [a3.l] at d
  have hst:Xf (Ei al (rdA a)) (Dk al b u' k' r' tk')=(C2 (Dk al b u' k' r' tk'),0):=by
   unfold Xf
   rw [a5];rfl
  unfold Avl
  show (Aje Rm Rn b al (rdA a) (PlayV (Ei al (rdA a)) (Dk al b (hA al-sg b (wyA a bb)) (pwA c) 0 0) 120) (A2h (Ei al (rdA a)) (Dk al b (hA al-sg b (wyA a bb)) (pwA c) 0 0) 0 120) (Xf (Ei al (rdA a)) (St.etaS (PlayV (Ei al (rdA a)) (Dk al b (hA al-sg b (wyA a bb)) (pwA c) 0 0) 120).1))).sat _
  rw [a1,a2]
  show (Aje Rm Rn b al (rdA a) (Dk al b u' k' r' tk',[],0,()) (M7 al us,0,()) (Xf (Ei al (rdA a)) (Dk al b u' k' r' tk'))).sat _
  rw [hst]
  unfold Aje
  show (B7g Rm Rn (iter A3v (0+1) (Aac ⟨b,Eh (Ei al (rdA a)),(450,rdA a,()),Ou (Dk al b u' k' r' tk'),[],M7 al us,C2 (Dk al b u' k' r' tk')⟩ 0))).sat _
  rw [B39 rfl]
  show (Avk Rm Rn b (Eh (Ei al (rdA a))) (450,rdA a,()) (Ou (Dk al b u' k' r' tk')) [] (M7 al us) (C2 (Dk al b u' k' r' tk'))).sat _
  unfold Avk
  rw [decide_eq_true (show ((Eh (Ei al (rdA a))).1.size:Int)≤Bo .i64 from Bc3 al),cond_true,E2 (by show (0:Int)≤0∧(0:Int)<((1:Nat):Int);decide),cond_true]
  show (Avj (Rm (G4 al) 0 (!b) (rdA a) (M7 al us)) (Rn (G4 al) 0 (!b) (axM al (cA al) u' (sg b k') r').1 (rdA a)) (C2 (Dk al b u' k' r' tk')) ((([]:Kns).length:Nat):Int)).sat _
  rw [Aja,Bc2 R3 a3 a4 h0,Avp R3 d]
  unfold Avj
  have e:(decide (-500≤qA al b u'-rdA a)==(stq (qA al b u') (rdA a)==3))=true:=by
   by_cases h : -500≤qA al b u'-rdA a
   ·rw [decide_eq_true h,Ave.2 h];rfl
   ·rw [decide_eq_false h,beq_eq_false_iff_ne.2 (fun e=>h (Ave.1 e))];rfl
  show (bif !C2 (Dk al b u' k' r' tk') then Sm else bif (decide (-500≤qA al b u'-rdA a)==(stq (qA al b u') (rdA a)==3)) then Sm else .fail:Tree Unit).sat _
  rw [e]
  cases C2 (Dk al b u' k' r' tk') <;> exact trivial
 ·rw [decide_eq_false hg]
  exact trivial
theorem B3a {a b c:Int} {bk al:Bool} (ha:0≤a∧a≤65535) (hb:0≤b∧b≤65535) (hc:0≤c∧c≤65535):(B37 A66 A65 skV PlayV A2h Xf Rm Rn a b c bk al).sat (fun _=>True):=by
 have k:=Bhg (al:=al) (b:=bk) ha hb hc
 have e1:W64 (0-1) = -1:=by decide
 have e0:W64 (0-0)=0:=by decide
 unfold B37
 rw [e1,e0]
 cases al <;> cases bk <;> exact k
end Tp
open Tp
theorem topThrough_sat:LawSat X_topThrough 7 cs_topThrough 10:=Axz 10 (fun y=>B37 A66 A65 St.skV St.PlayV A2h Xf Rm Rn y.1 y.2.1 y.2.2.1 y.2.2.2.1 y.2.2.2.2.1) (B38 A66 A65 St.skV St.PlayV A2h Xf Rm Rn) fun _ hw=>B3a hw.1 hw.2.1 hw.2.2.1
end V
end Go.Proofs.YtcfanlgpkefogaaGreat
