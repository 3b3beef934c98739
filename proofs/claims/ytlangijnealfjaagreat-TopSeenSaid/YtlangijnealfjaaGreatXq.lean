import Derived.Test.YtlangijnealfjaaGreatAg
namespace Go.Proofs.YtlangijnealfjaaGreat
open Go.RowKit
namespace V
namespace Rg
abbrev Arh:TC:=.st [cI,cI]
abbrev okLft (x:TCTs [cPt,cPt,cPt]):Bool:=Ac4 x.1.1 x.1.2.1 x.2.1.1 x.2.1.2.1 x.2.2.1.1 x.2.2.1.2.1
theorem is_below:FnIs Tryz.prog (117,Tryz.f117):=⟨Tryz.func117,by kernel_rfl,by kernel_rfl⟩
def plBe:List (Nat×PureT):=[(114,Z9),(115,P4)]
theorem puBe:Cd Tryz.prog plBe:=puOk_cons is_times.plain A91 (puOk_cons is_compare.plain X5 puOk_nil)
def prv (a b c d:Int):Int:=((18446744073709551616*(a*d / 18446744073709551616)+a*d % 18446744073709551616)-(18446744073709551616*(c*b / 18446744073709551616)+c*b % 18446744073709551616)).sign
def A4z (a b c d:Int):Bool:=decide (0≤a∧0≤b∧0≤c∧0≤d)
def A1h (a b c d:Int):Tree (TCTs [.b]):=bif decide (0≤a∧0≤d) then bif decide (0≤c∧0≤b) then .leaf (decide (prv a b c d<0),()) else .fail else .fail
theorem A88 (a b c d:Int) (h:A4z a b c d=true):(A1h a b c d).sat (fun y=>y=(decide (a*d<c*b),())):=by
 obtain ⟨h1,h2,h3,h4⟩:=of_decide_eq_true h
 unfold A1h prv
 rw [decide_eq_true (show 0≤a∧0≤d from ⟨h1,h4⟩),decide_eq_true (show 0≤c∧0≤b from ⟨h3,h2⟩),show 18446744073709551616*(a*d / 18446744073709551616)+a*d % 18446744073709551616=a*d by omega,show 18446744073709551616*(c*b / 18446744073709551616)+c*b % 18446744073709551616=c*b by omega]
 show (decide ((a*d-c*b).sign<0),())=_
 congr 1
 rcases Int.lt_trichotomy (a*d) (c*b) with k | k | k
 ·rw [Lh k,decide_eq_true k];rfl
 ·rw [Lj k,decide_eq_false (show ¬ a*d<c*b by omega)];rfl
 ·rw [Li k,decide_eq_false (show ¬ a*d<c*b by omega)];rfl
abbrev Aay:PureT:=Bh [Arh,Arh] [.b] (fun x=>A4z x.1.1 x.1.2.1 x.2.1.1 x.2.1.2.1) (fun x=>(decide (x.1.1*x.2.1.2.1<x.2.1.1*x.1.2.1),()))
theorem Apg:A6 Tryz.prog 117 Aay:=Bj (An Am puBe (A0 is_below A2)) 3
 (fun x=>A1h x.1.1 x.1.2.1 x.2.1.1 x.2.1.2.1) (fun x=>by kernel_rfl) fun _ hok _=>A88 _ _ _ _ hok
theorem is_ring:FnIs Tryz.prog (44,Tryz.f44):=⟨Tryz.func44,by kernel_rfl,by kernel_rfl⟩
def tab:List (Int×Int):=[(4096,0),(3784,1567),(2896,2896),(1567,3784),(0,4096),(-1567,3784),(-2896,2896),(-3784,1567),(-4096,0),(-3784,-1567),(-2896,-2896),(-1567,-3784),(0,-4096),(1567,-3784),(2896,-2896),(3784,-1567)]
def Axq (x y r:Int) (t:Int×Int):TCT cPt:=(W64 (x+W64 ((W64 (r*t.1)).tdiv 4096)),W64 (y+W64 ((W64 (r*t.2)).tdiv 4096)),())
def ringW (x y r:Int):List (TCT cPt):=tab.map (Axq x y r)
abbrev Ajt:PureT:=Bh [A1] [.sl cPt] (fun _=>true) (fun x=>(ringW x.1.1.1 x.1.1.2.1 x.1.2.1,()))
theorem Aub:A6 Tryz.prog 44 Ajt:=A1a (An Am puOk_nil (A0 is_ring A2)) 7 (fun x=>by kernel_rfl)
theorem Ip {i n:Nat} (h:i<n) (hn:(n:Int)≤Aw .i64):W64 ((i:Int)+1)=((i+1:Nat):Int):=by
 simp only [Aw] at hn
 rw [show W64 ((i:Int)+1)=(i:Int)+1 from Ai (by omega) (by omega)];rfl
theorem Aju {x:Int} (h:inK .i64 x) : -9223372036854775808≤x∧x≤9223372036854775807:=h
def Aph (x y:Int):Bool:=decide (max (max (max x (W64 (0-x))) y) (W64 (0-y))>4194304)
def Auc (x y:Int):Bool:=decide (min x y < -4194304)
theorem Api {x y:Int} (hx:inK .i64 x) (hy:inK .i64 y):(Aph x y||Auc x y)=!fpt x y:=by
 have ⟨x1,x2⟩:=Aju hx
 have ⟨y1,y2⟩:=Aju hy
 unfold Aph Auc fpt
 rw [← Bool.decide_or,← decide_not]
 congr 1
 apply propext
 by_cases h1:x = -9223372036854775808
 ·constructor
  ·intro _ h;omega
  ·intro _;right;omega
 ·by_cases h2:y = -9223372036854775808
  ·constructor
   ·intro _ h;omega
   ·intro _;right;omega
  ·rw [show W64 (0-x)=0-x from Ai (by omega) (by omega),show W64 (0-y)=0-y from Ai (by omega) (by omega)]
   omega
noncomputable def A1i:Code:=(Ah (bodyOf Tryz.f45)).getD 0 .skip
def A50:Lay:={ keys:=[2,5,6,7],ks:=[.d .b,.d (.sl cPt),.d cI,.d cI],bs:=[],n:=32,nx:=1000,marks:=[] }
def Aud:Lay:={ keys:=[2],ks:=[.d .b],bs:=[],n:=32,nx:=1000,marks:=[] }
def A89:XE→Lay:=fun _=>Aud
def Fg (b:Bool) (l:List (TCT cPt)) (n i:Int):A50.T:=((b,l,n,i,()),())
def Fr (b:Bool):Aud.T:=((b,()),())
def A51 (b:Bool) (l:List (TCT cPt)) (n i:Int):Tree (A50.T⊕A4 A89) :=
 bif decide (i<n) then bif decide (0≤i∧i<(l.length:Int)) then
  bif Aph (A7 l i.toNat (A5 cPt)).1 (A7 l i.toNat (A5 cPt)).2.1 then .leaf (.inr ⟨.ret,Fr false⟩) else
  bif Auc (A7 l i.toNat (A5 cPt)).1 (A7 l i.toNat (A5 cPt)).2.1 then .leaf (.inr ⟨.ret,Fr false⟩) else .leaf (.inl (Fg b l n (W64 (i+1)))) else .fail else .leaf (.inr ⟨.exit 0,Fr b⟩)
def fp (p:TCT cPt):Bool:=fpt p.1 p.2.1
def A8a (g:A50.T):Tree (A4 A89) :=
 .br (decide (g.1.2.2.1=(g.1.2.1.length:Int)∧g.1.2.2.2.1=0)) (.br (g.1.2.1.all fp) (.leaf ⟨.exit 0,Fr g.1.1⟩) (.leaf ⟨.ret,Fr false⟩)) .fail
def Apj (p:TCT cPt) (_:Nat) (_:Unit):Unit⊕A4 A89:=bif fp p then .inl () else .inr ⟨.ret,Fr false⟩
theorem Ajv (b:Bool):∀ (l:List (TCT cPt)) (i:Nat),A49 Apj (fun _=>(⟨.exit 0,Fr b⟩:A4 A89)) l i ()=bif l.all fp then ⟨.exit 0,Fr b⟩ else ⟨.ret,Fr false⟩
 | [],i=>rfl
 | p::l,i=>by
  simp only [A49,Apj,List.all_cons]
  cases fp p with
  | false=>rfl
  | true=>exact Ajv b l (i+1)
theorem Aue:Av Tryz.prog 45 A1i (Au A50 A89 A8a):=by
 refine Ew (X:=ctx Tryz.prog [] []) (An Am puOk_nil A2) 7 45 (fun _=>none) (fun _ _ f h=>by simp at h) A50 A89 (fun _=>Nat.le_refl _) A8a (fun g=>A51 g.1.1 g.1.2.1 g.1.2.2.1 g.1.2.2.2.1) (fun g=>by kernel_rfl) ?_
 rintro ⟨⟨b,l,n,i,⟨⟩⟩,⟨⟩⟩ R hw hf
 obtain ⟨hf,h0⟩:=hf
 by_cases hc:n=(l.length:Int)∧i=0
 ·obtain ⟨rfl,rfl⟩:=hc
  have hf:=hf (decide_eq_true ⟨rfl,rfl⟩)
  have hlen:(l.length:Int)≤Aw .i64:=by
   simp only [Lay.WF,A50,WFKs,WFK,WFD] at hw
   exact hw.1.2.1.1
  have hmem:∀ p ∈ l,inK .i64 p.1∧inK .i64 p.2.1:=by
   simp only [Lay.WF,A50,WFKs,WFK,WFD] at hw
   intro p hp
   have:=hw.1.2.1.2 p hp
   simp only [WFD,WFDs] at this
   exact ⟨this.1,this.2.1⟩
  refine ⟨_,Py l (fun i _=>Fg b l l.length i) Apj (fun _=>⟨.exit 0,Fr b⟩) (fun _=>True) ?_ ?_ l.length 0 () (by omega) trivial ?_⟩
  ·intro i _ hi Q _ _ hQ
   show (A51 b l l.length i).sat Q
   unfold A51
   rw [decide_eq_true (show (i:Int)<l.length by omega),decide_eq_true (show 0≤(i:Int)∧(i:Int)<l.length by omega),cond_true,cond_true,Ip hi hlen]
   have ht:(i:Int).toNat=i:=by omega
   rw [ht,C7 hi]
   obtain ⟨k1,k2⟩:=hmem l[i] (List.getElem_mem hi)
   have kb:=Api k1 k2
   unfold Apj fp at hQ
   cases c1:Aph l[i].1 l[i].2.1 with
   | true =>
    rw [c1,Bool.true_or] at kb
    rw [show fpt l[i].1 l[i].2.1=false by simpa using kb.symm] at hQ
    exact hQ
   | false =>
    rw [c1,Bool.false_or] at kb
    rw [kb]
    cases c2:fpt l[i].1 l[i].2.1 with
    | true=>rw [c2] at hQ;exact hQ trivial
    | false=>rw [c2] at hQ;exact hQ
  ·intro _ Q _ hQ
   show (A51 b l l.length l.length).sat Q
   unfold A51
   rw [decide_eq_false (show ¬ (l.length:Int)<l.length by omega)]
   exact hQ
  ·rw [List.drop_zero,Ajv]
   obtain ⟨h1,h2⟩:=hf
   have hwr:∀ b,Aud.WF (Fr b):=fun _=>⟨⟨trivial,trivial⟩,trivial⟩
   cases ha:l.all fp with
   | true=>exact h1 ha
   | false=>exact h2 ha
 ·exact (h0 (decide_eq_false hc)).elim
structure PS where
 f0:Int
 f1:Int
 t0:Int
 t1:Int
 o0:Bool
 o1:Bool
 an:Bool
def PS.low (s:PS) (x y:Int):PS:={ s with f0:=W64 (0-x),f1:=W64 (y-x),o0:=true,an:=true }
def PS.up (s:PS) (x y:Int):PS:={ s with t0:=x,t1:=W64 (x-y),o1:=true,an:=true }
def PS.one (s:PS):PS:={ s with an:=true }
structure PC where
 ax:Int
 ay:Int
 bx:Int
 bY:Int
 rb:Bool
def plPa:List (Nat×PureT):=[(113,A64),(117,Aay)]
theorem puPa:Cd Tryz.prog plPa:=puOk_cons is_left.plain Aez (puOk_cons is_below.plain Apg puOk_nil)
noncomputable def Rk:LK:={ id:=9,keys:=[3,4,6,7,8,9,10],ks:=[.p 0 0 0 0,.p 1 0 0 0,.p 2 0 0 0,.p 3 0 0 0,.p 4 0 0 0,.p 5 0 0 0,.p 6 0 0 0],n:=92,fn:=57,params:=[22,23],assign:=(rangeAt Tryz.f57 0).1,body:=(rangeAt Tryz.f57 0).2,df:=8,st:=some 0 }
noncomputable def A52:LK:={ id:=9,keys:=[],ks:=[],n:=92,fn:=57,params:=[22,23],assign:=(rangeAt Tryz.f57 0).1,body:=(rangeAt Tryz.f57 0).2,df:=8,st:=some 1 }
def Ari:List BK:=[(0,28,[.d cI,.d cI]),(1,28,[.d cI,.d cI]),(2,4,[.d .b]),(3,253,[.d cI,.d cI]),(4,253,[.d cI,.d cI]),(5,110,[.d .b,.d .b]),(6,4,[.d .b]),(7,44,[.d (.sl cPt)])]
noncomputable def Hk:Lay2:={ keys:=[0,1,6,7,8],ks:=[.y 9,.p 7 0 0 0,.d (.sl cPt),.d cI,.d cI],bs:=Ari,ls:=[Rk],n:=32,nx:=1000,marks:=[],ds:=[8] }
noncomputable def Axr:Lay2:={ keys:=[],ks:=[],bs:=[(2,4,[.d .b])],ls:=[A52],n:=32,nx:=1000,marks:=[],ds:=[8] }
noncomputable def N5:XE→Lay2:=fun e=>match e with | .ret=>Axr | _=>Hk
abbrev lPa:LTs [Rk]:=(((((),(),(),(),(),(),(),()):SKTs Rk.ks),((():Unit):StT Rk.st)),())
abbrev lPr:LTs [A52]:=((((():Unit):SKTs A52.ks),((():Unit):StT A52.st)),())
def bPa (c:PC) (m:List (TCT cPt)) (s:PS):BTs Ari:=((c.ax,c.ay,()),(c.bx,c.bY,()),(c.rb,()),(s.f0,s.f1,()),(s.t0,s.t1,()),(s.o0,s.o1,()),(s.an,()),(m,()),())
def Pg (l:List (TCT cPt)) (n i:Int) (c:PC) (m:List (TCT cPt)) (s:PS):Hk.T:=(((),(),l,n,i,()),bPa c m s,lPa)
def Pr (b:Bool):Axr.T:=((),((b,()),()),lPr)
section
variable (next:PS→Tree (Hk.T⊕Bc N5)) (s:PS) (x y:Int)
def Apk:Tree (Hk.T⊕Bc N5) :=
 bif !s.o0 then next (s.low x y) else bif A4z s.f0 s.f1 (W64 (0-x)) (W64 (y-x)) then bif decide (s.f0*W64 (y-x)<W64 (0-x)*s.f1) then next (s.low x y) else next s.one else .fail
def upT:Tree (Hk.T⊕Bc N5) :=
 bif !s.o1 then next (s.up x y) else bif A4z x (W64 (x-y)) s.t0 s.t1 then bif decide (x*s.t1<s.t0*W64 (x-y)) then next (s.up x y) else next s.one else .fail
def Auf:Tree (Hk.T⊕Bc N5) :=
 bif decide (x≤0) then
  bif decide (y≤0) then .need (Dc [A52]) (.leaf (.inr ⟨.ret,Pr false⟩)) else bif decide (x≤0) then Apk next s x y else bif decide (y≤0) then upT next s x y else next s.one
 else bif decide (x≤0) then Apk next s x y else bif decide (y≤0) then upT next s x y else next s.one
end
def Oq (l:List (TCT cPt)) (i:Int):TCT cPt:=A7 l i.toNat (A5 cPt)
def nxt (m:List (TCT cPt)) (i:Int):Int:=(W64 (i+1)).tmod (m.length:Int)
def Yy (q p:TCT cPt):Bool:=q.1==p.1&&(q.2.1==p.2.1&&true)
def lfP (p q:TCT cPt) (x y:Int):Int:=lft p.1 p.2.1 q.1 q.2.1 x y
def okL (p q:TCT cPt) (x y:Int):Bool:=fpt p.1 p.2.1&&(fpt q.1 q.2.1&&fpt x y)
def A53 (l:List (TCT cPt)) (n i:Int) (c:PC) (m:List (TCT cPt)) (s:PS):Tree (Hk.T⊕Bc N5) :=
 bif decide (i<n) then bif decide (0≤i∧i<(l.length:Int)) then bif (m.length:Int)!=0 then bif decide (0≤nxt m i∧nxt m i<(m.length:Int)) then
 bif !Yy (Oq m (nxt m i)) (Oq l i) then
  bif okL (Oq l i) (Oq m (nxt m i)) c.ax c.ay then bif okL (Oq l i) (Oq m (nxt m i)) c.bx c.bY then
   Auf (fun s=>.need (Dc [Rk]) (.leaf (.inl (Pg l n (W64 (i+1)) c m s)))) s (lfP (Oq l i) (Oq m (nxt m i)) c.ax c.ay) (lfP (Oq l i) (Oq m (nxt m i)) c.bx c.bY)
  else .fail else .fail
 else .need (Dc [Rk]) (.leaf (.inl (Pg l n (W64 (i+1)) c m s)))
 else .fail else .fail else .fail else .need (Dc [Rk]) (.leaf (.inr ⟨.exit 0,Pg l n i c m s⟩))
noncomputable def Aaz:Code:=(Ah (bodyOf Tryz.f187)).getD 0 .skip
noncomputable def Apl:Ctx:=ctx Tryz.prog plPa [(57,Tryz.f57)]
def pcP (g:Hk.T):PC:=⟨g.2.1.1.1,g.2.1.1.2.1,g.2.1.2.1.1,g.2.1.2.1.2.1,g.2.1.2.2.1.1⟩
def psP (g:Hk.T):PS:=⟨g.2.1.2.2.2.1.1,g.2.1.2.2.2.1.2.1,g.2.1.2.2.2.2.1.1,g.2.1.2.2.2.2.1.2.1,g.2.1.2.2.2.2.2.1.1,g.2.1.2.2.2.2.2.1.2.1,g.2.1.2.2.2.2.2.2.1.1⟩
def mP (g:Hk.T):List (TCT cPt):=g.2.1.2.2.2.2.2.2.2.1.1
theorem B00 (g:Hk.T):evC Tryz.prog (Ck Apl 7) Apl.pures 187 Apl.u (fun _=>none) Aaz (Hk.of g) (Do Hk N5)=A53 g.1.2.2.1 g.1.2.2.2.1 g.1.2.2.2.2.1 (pcP g) (mP g) (psP g):=by kernel_rfl
def PS.lowP (s:PS) (x y:Int):PS:={ s with f0:=0-x,f1:=y-x,o0:=true,an:=true }
def PS.upP (s:PS) (x y:Int):PS:={ s with t0:=x,t1:=x-y,o1:=true,an:=true }
def pSt (x y:Int) (s:PS):Option PS :=
 bif decide (x≤0)&&decide (y≤0) then none else
 bif decide (x≤0) then some (bif !s.o0||decide (s.f0*(y-x)<(0-x)*s.f1) then s.lowP x y else s.one) else
 bif decide (y≤0) then some (bif !s.o1||decide (x*s.t1<s.t0*(x-y)) then s.upP x y else s.one) else some s.one
def Iq (c:PC) (l:List (TCT cPt)) (i:Nat) (s:PS):Option PS :=
 bif Yy (A7 l ((i+1) % l.length) (A5 cPt)) (A7 l i (A5 cPt)) then some s else
 pSt (lfP (A7 l i (A5 cPt)) (A7 l ((i+1) % l.length) (A5 cPt)) c.ax c.ay) (lfP (A7 l i (A5 cPt)) (A7 l ((i+1) % l.length) (A5 cPt)) c.bx c.bY) s
def K5 (c:PC) (l:List (TCT cPt)):Nat→Nat→PS→Option PS
 | 0,_,s=>some s
 | f+1,i,s=>(Iq c l i s).bind fun s'=>K5 c l f (i+1) s'
def okP (x:Option PS):Bool:=match x with
 | some _=>true
 | none=>false
def ps0:PS:=⟨0,1,1,1,false,false,false⟩
def Ai1 (x:Option PS):PS:=match x with
 | some s=>s
 | none=>ps0
structure PInv (s:PS):Prop where
 a:0≤s.f0
 b:0≤s.f1
 c:0≤s.t0
 d:0≤s.t1
theorem Ab0 {x y:Int} {s s':PS} (I:PInv s) (h:pSt x y s=some s'):PInv s':=by
 unfold pSt at h
 by_cases hx:x≤0
 ·by_cases hy:y≤0
  ·rw [decide_eq_true hx,decide_eq_true hy] at h;simp at h
  ·rw [decide_eq_true hx,decide_eq_false hy] at h
   simp only [Bool.and_false,cond_false,cond_true,Option.some.injEq] at h
   subst h
   cases (!s.o0||decide (s.f0*(y-x)<(0-x)*s.f1))
   ·exact ⟨I.a,I.b,I.c,I.d⟩
   ·exact ⟨by show 0≤0-x;omega,by show 0≤y-x;omega,I.c,I.d⟩
 ·by_cases hy:y≤0
  ·rw [decide_eq_false hx,decide_eq_true hy] at h
   simp only [Bool.false_and,cond_false,cond_true,Option.some.injEq] at h
   subst h
   cases (!s.o1||decide (x*s.t1<s.t0*(x-y)))
   ·exact ⟨I.a,I.b,I.c,I.d⟩
   ·exact ⟨I.a,I.b,by show 0≤x;omega,by show 0≤x-y;omega⟩
  ·rw [decide_eq_false hx,decide_eq_false hy] at h
   simp only [Bool.false_and,cond_false,Option.some.injEq] at h
   subst h
   exact ⟨I.a,I.b,I.c,I.d⟩
theorem Ajw {next:PS→Tree (Hk.T⊕Bc N5)} {s:PS} {x y:Int} {Q:Hk.T⊕Bc N5→Prop} (I:PInv s) (x1 : -1000000000000000≤x) (x2:x≤1000000000000000) (y1 : -1000000000000000≤y) (y2:y≤1000000000000000)
  (h1:∀ s',pSt x y s=some s'→(next s').sat Q) (h2:pSt x y s=none→Q (.inr ⟨.ret,Pr false⟩)):(Auf next s x y).sat Q:=by
 unfold Auf
 by_cases hx:x≤0
 ·rw [decide_eq_true hx]
  by_cases hy:y≤0
  ·rw [decide_eq_true hy]
   refine ⟨Bb _,h2 ?_⟩
   unfold pSt;rw [decide_eq_true hx,decide_eq_true hy];rfl
  ·rw [decide_eq_false hy]
   have hp:pSt x y s=some (bif !s.o0||decide (s.f0*(y-x)<(0-x)*s.f1) then s.lowP x y else s.one):=by unfold pSt;rw [decide_eq_true hx,decide_eq_false hy];rfl
   have hn:=h1 _ hp
   have el:s.low x y=s.lowP x y:=by unfold PS.low PS.lowP;rw [show W64 (0-x)=0-x from Ai (by omega) (by omega),show W64 (y-x)=y-x from Ai (by omega) (by omega)]
   show (Apk next s x y).sat Q
   unfold Apk
   rw [el,show W64 (0-x)=0-x from Ai (by omega) (by omega),show W64 (y-x)=y-x from Ai (by omega) (by omega)]
   cases ho:s.o0 with
   | false=>rw [ho] at hn;exact hn
   | true =>
    rw [ho] at hn
    rw [show A4z s.f0 s.f1 (0-x) (y-x)=true from decide_eq_true ⟨I.a,I.b,by omega,by omega⟩]
    cases hd:decide (s.f0*(y-x)<(0-x)*s.f1) <;> (rw [hd] at hn;exact hn)
 ·rw [decide_eq_false hx]
  by_cases hy:y≤0
  ·rw [decide_eq_true hy]
   have hp:pSt x y s=some (bif !s.o1||decide (x*s.t1<s.t0*(x-y)) then s.upP x y else s.one):=by unfold pSt;rw [decide_eq_false hx,decide_eq_true hy];rfl
   have hn:=h1 _ hp
   have el:s.up x y=s.upP x y:=by unfold PS.up PS.upP;rw [show W64 (x-y)=x-y from Ai (by omega) (by omega)]
   show (upT next s x y).sat Q
   unfold upT
   rw [el,show W64 (x-y)=x-y from Ai (by omega) (by omega)]
   cases ho:s.o1 with
   | false=>rw [ho] at hn;exact hn
   | true =>
    rw [ho] at hn
    rw [show A4z x (x-y) s.t0 s.t1=true from decide_eq_true ⟨by omega,by omega,I.c,I.d⟩]
    cases hd:decide (x*s.t1<s.t0*(x-y)) <;> (rw [hd] at hn;exact hn)
  ·rw [decide_eq_false hy]
   exact h1 _ (by unfold pSt;rw [decide_eq_false hx,decide_eq_false hy];rfl)
theorem Ajx {x y:Int} (h:fpt x y=true):(-4194304≤x∧x≤4194304)∧(-4194304≤y∧y≤4194304):=by
 unfold fpt at h
 obtain ⟨a,b,c,d⟩:=of_decide_eq_true h
 exact ⟨⟨a,b⟩,c,d⟩
theorem Ajy {ax ay bx bY px py:Int} (h1:fpt ax ay=true) (h2:fpt bx bY=true) (h3:fpt px py=true) : -1000000000000000≤lft ax ay bx bY px py∧lft ax ay bx bY px py≤1000000000000000:=by
 have a:=Ajx h1;have b:=Ajx h2;have c:=Ajx h3
 have t:=Zh (x:=bx-ax) (y:=py-ay) (u:=px-ax) (v:=bY-ay) (by omega) (by omega) (by omega) (by omega)
 unfold lft
 omega
def Ae6 (l:List (TCT cPt)) (n i:Int) (c:PC) (s:PS):Bool:=decide (n=(l.length:Int)∧i=0∧l.length≤1000∧0≤s.f0∧0≤s.f1∧0≤s.t0∧0≤s.t1)&&(l.all fp&&(fpt c.ax c.ay&&fpt c.bx c.bY))
def A8b (g:Hk.T):Tree (Bc N5) :=
 .need (mP g=g.1.2.2.1) (.br (Ae6 g.1.2.2.1 g.1.2.2.2.1 g.1.2.2.2.2.1 (pcP g) (psP g))
  (.br (okP (K5 (pcP g) g.1.2.2.1 g.1.2.2.1.length 0 (psP g))) (.leaf ⟨.exit 0,Pg g.1.2.2.1 (g.1.2.2.1.length:Int) (g.1.2.2.1.length:Int) (pcP g) (mP g) (Ai1 (K5 (pcP g) g.1.2.2.1 g.1.2.2.1.length 0 (psP g)))⟩) (.leaf ⟨.ret,Pr false⟩)) .fail)
theorem Ae7 (c:PC) (l:List (TCT cPt)) (i:Nat) (s:PS):K5 c l 0 i s=some s:=rfl
theorem Yz (c:PC) (l:List (TCT cPt)) (f i:Nat) (s:PS):K5 c l (f+1) i s=(Iq c l i s).bind fun s'=>K5 c l f (i+1) s':=rfl
theorem Arj {l:List (TCT cPt)} (h:l.all fp=true) {i:Nat} (hi:i<l.length):fp (A7 l i (A5 cPt))=true:=List.all_eq_true.1 h _ (Dd hi _)
theorem Apm {step:Hk.T→Tree (Hk.T⊕Bc N5)} (hs:∀ l n i c m s,step (Pg l n i c m s)=A53 l n i c m s) (R:Bc N5→Prop) (l:List (TCT cPt)) (c:PC) (hl:l.length≤1000) (hf:l.all fp=true) (ha:fpt c.ax c.ay=true) (hb:fpt c.bx c.bY=true) (f:Nat) :
  ∀ (i:Nat) (s:PS),i+f=l.length→PInv s→(okP (K5 c l f i s)=true→R ⟨.exit 0,Pg l (l.length:Int) (l.length:Int) c l (Ai1 (K5 c l f i s))⟩)→(okP (K5 c l f i s)=false→R ⟨.ret,Pr false⟩) →
   F4 Hk N5 step R (f+1) (Pg l (l.length:Int) (i:Int) c l s):=by
 induction f with
 | zero =>
  intro i s hi _ h1 _
  have e:i=l.length:=by omega
  subst e
  intro _
  rw [hs]
  unfold A53
  rw [decide_eq_false (show ¬ (l.length:Int)<(l.length:Int) by omega)]
  exact ⟨Bb _,fun _=>h1 rfl⟩
 | succ f ih =>
  intro i s hi I h1 h2
  have hlt:i<l.length:=by omega
  have hl0:0<l.length:=by omega
  have hm:=Nat.mod_lt (i+1) hl0
  intro _
  rw [hs]
  unfold A53
  rw [Yz] at h1 h2
  have en:nxt l (i:Int)=(((i+1) % l.length:Nat):Int):=by
   unfold nxt
   rw [show W64 ((i:Int)+1)=((i+1:Nat):Int) from (Ai (by omega) (by omega)).trans rfl]
   rfl
  have ep:Oq l (i:Int)=A7 l i (A5 cPt):=by unfold Oq;rw [show (i:Int).toNat=i by omega]
  have eq:Oq l (((i+1) % l.length:Nat):Int)=A7 l ((i+1) % l.length) (A5 cPt):=by unfold Oq;rw [Int.toNat_natCast]
  have f1:=Arj hf hlt
  have f2:=Arj hf hm
  rw [en,ep,eq,decide_eq_true (show (i:Int)<(l.length:Int) by omega),decide_eq_true (show 0≤(i:Int)∧(i:Int)<(l.length:Int) by omega),show ((l.length:Int)!=0)=true from bne_iff_ne.2 (by omega),decide_eq_true (show 0≤(((i+1) % l.length:Nat):Int)∧(((i+1) % l.length:Nat):Int)<(l.length:Int) from ⟨Int.natCast_nonneg _,Int.ofNat_lt.2 hm⟩),
   show W64 ((i:Int)+1)=((i+1:Nat):Int) from (Ai (by omega) (by omega)).trans rfl]
  have hstep:Iq c l i s=bif Yy (A7 l ((i+1) % l.length) (A5 cPt)) (A7 l i (A5 cPt)) then some s else pSt (lfP (A7 l i (A5 cPt)) (A7 l ((i+1) % l.length) (A5 cPt)) c.ax c.ay) (lfP (A7 l i (A5 cPt)) (A7 l ((i+1) % l.length) (A5 cPt)) c.bx c.bY) s:=rfl
  cases hsame:Yy (A7 l ((i+1) % l.length) (A5 cPt)) (A7 l i (A5 cPt)) with
  | true =>
   rw [hsame] at hstep
   rw [show Iq c l i s=some s from hstep,Option.bind_some] at h1 h2
   exact ⟨Bb _,ih (i+1) s (by omega) I h1 h2⟩
  | false =>
   rw [hsame,cond_false] at hstep
   generalize hp:A7 l i (A5 cPt)=p at *
   generalize hq:A7 l ((i+1) % l.length) (A5 cPt)=q at *
   have o1:okL p q c.ax c.ay=true:=by unfold okL;rw [show fpt p.1 p.2.1=true from f1,show fpt q.1 q.2.1=true from f2,ha];rfl
   have o2:okL p q c.bx c.bY=true:=by unfold okL;rw [show fpt p.1 p.2.1=true from f1,show fpt q.1 q.2.1=true from f2,hb];rfl
   have b1:=Ajy (show fpt p.1 p.2.1=true from f1) (show fpt q.1 q.2.1=true from f2) ha
   have b2:=Ajy (show fpt p.1 p.2.1=true from f1) (show fpt q.1 q.2.1=true from f2) hb
   rw [o1,o2]
   refine Ajw I b1.1 b1.2 b2.1 b2.2 (fun s' hs'=>?_) (fun hs'=>?_)
   ·rw [hstep,hs',Option.bind_some] at h1 h2
    exact ⟨Bb _,ih (i+1) s' (by omega) (Ab0 I hs') h1 h2⟩
   ·rw [hstep,hs'] at h2
    exact fun _=>h2 rfl
theorem is_passes:FnIs Tryz.prog (57,Tryz.f57):=⟨Tryz.func57,by kernel_rfl,by kernel_rfl⟩
theorem is_sides:FnIs Tryz.prog (116,Tryz.f116):=⟨Tryz.func116,by kernel_rfl,by kernel_rfl⟩
theorem is_sides1:FnIs Tryz.prog (187,Tryz.f187):=⟨Tryz.func187,by kernel_rfl,by kernel_rfl⟩
theorem B01:Av Tryz.prog 187 Aaz (Cn Hk N5 A8b):=by
 refine Em (X:=Apl) (An Am puPa (A0 is_passes A2)) 7 187 (fun _=>none) (fun _ _ f h=>by simp at h) Hk N5 (fun e=>by cases e <;> exact Nat.le_refl _) A8b (fun g=>A53 g.1.2.2.1 g.1.2.2.2.1 g.1.2.2.2.2.1 (pcP g) (mP g) (psP g)) B00 ?_
 intro g R _ hf
 obtain ⟨hm,hf,h0⟩:=hf
 cases hc:Ae6 g.1.2.2.1 g.1.2.2.2.1 g.1.2.2.2.2.1 (pcP g) (psP g) with
 | false=>exact (h0 hc).elim
 | true =>
  obtain ⟨h1,h2⟩:=hf hc
  unfold Ae6 at hc
  simp only [Bool.and_eq_true] at hc
  obtain ⟨hd,hfp,hfa,hfb⟩:=hc
  obtain ⟨k1,k2,k3,k4,k5,k6,k7⟩:=of_decide_eq_true hd
  have eg:g=Pg g.1.2.2.1 (g.1.2.2.1.length:Int) ((0:Nat):Int) (pcP g) g.1.2.2.1 (psP g):=by
   rw [show ((0:Nat):Int)=g.1.2.2.2.2.1 from k2.symm,← k1]
   show g=Pg g.1.2.2.1 g.1.2.2.2.1 g.1.2.2.2.2.1 (pcP g) g.1.2.2.1 (psP g)
   rw (occs:=.pos [2]) [← hm]
   rfl
  rw [hm] at h1
  refine ⟨g.1.2.2.1.length+1,?_⟩
  rw [eg]
  exact Apm (fun _ _ _ _ _ _=>rfl) R g.1.2.2.1 (pcP g) k3 hfp hfa hfb g.1.2.2.1.length 0 (psP g) (by omega) ⟨k4,k5,k6,k7⟩ h1 h2
noncomputable def A54:Ctx:=F8 Tryz.prog plPa [(57,Tryz.f57),(116,Tryz.f116),(187,Tryz.f187)] [((187,1),Cn Hk N5 A8b)]
def Ajz (s:PS):Tree (TCTs [.b]) :=
 bif s.an then bif A4z s.f0 s.f1 s.t0 s.t1 then bif decide (s.f0*s.t1<s.t0*s.f1) then .leaf (true,()) else bif !s.o0 then .leaf (!s.o1,()) else .leaf (false,()) else .fail else .leaf (false,())
def Vu (c:PC) (l:List (TCT cPt)):Tree (TCTs [.b]) :=
 .need (Dc [Rk]) (.need (l=l) (bif Ae6 l (l.length:Int) 0 c ps0 then bif okP (K5 c l l.length 0 ps0) then Ajz (Ai1 (K5 c l l.length 0 ps0)) else .leaf (false,()) else .fail))
abbrev Ak0 (x:TCTs [cPt,cPt,.sl cPt]):Bool:=decide (x.2.2.1.length≤1000)&&(x.2.2.1.all fp&&(fpt x.1.1 x.1.2.1&&fpt x.2.1.1 x.2.1.2.1))
theorem A55 (x:TCTs [cPt,cPt,.sl cPt]):Ck A54 7 (.fn 57) (Cs [cPt,cPt,.sl cPt] x) Bs 0 (Fq Tryz.prog [.b])=Vu ⟨x.1.1,x.1.2.1,x.2.1.1,x.2.1.2.1,false⟩ x.2.2.1:=by kernel_rfl
def Ae8 (s:PS):Bool:=s.an&&(decide (s.f0*s.t1<s.t0*s.f1)||(!s.o0&&!s.o1))
def passF (c:PC) (l:List (TCT cPt)):Bool:=okP (K5 c l l.length 0 ps0)&&Ae8 (Ai1 (K5 c l l.length 0 ps0))
theorem Ae9 {c:PC} {l:List (TCT cPt)} {i:Nat} {s s':PS} (I:PInv s) (h:Iq c l i s=some s'):PInv s':=by
 unfold Iq at h
 cases hs:Yy (A7 l ((i+1) % l.length) (A5 cPt)) (A7 l i (A5 cPt)) with
 | true=>rw [hs] at h;simp only [cond_true,Option.some.injEq] at h;subst h;exact I
 | false=>rw [hs,cond_false] at h;exact Ab0 I h
theorem Ak1 {c:PC} {l:List (TCT cPt)} (f:Nat):∀ (i:Nat) (s s':PS),PInv s→K5 c l f i s=some s'→PInv s':=by
 induction f with
 | zero=>intro i s s' I h;rw [Ae7,Option.some.injEq] at h;subst h;exact I
 | succ f ih =>
  intro i s s' I h
  rw [Yz] at h
  cases h1:Iq c l i s with
  | none=>rw [h1] at h;simp at h
  | some t=>rw [h1,Option.bind_some] at h;exact ih (i+1) t s' (Ae9 I h1) h
theorem Apn:PInv ps0:=⟨by decide,by decide,by decide,by decide⟩
theorem A56 (c:PC) (l:List (TCT cPt)) (h1:l.length≤1000) (h2:l.all fp=true) (h3:fpt c.ax c.ay=true) (h4:fpt c.bx c.bY=true):(Vu c l).sat (fun y=>y=(passF c l,())):=by
 refine ⟨Bb _,rfl,?_⟩
 have hok:Ae6 l (l.length:Int) 0 c ps0=true:=by
  unfold Ae6
  rw [h2,h3,h4,decide_eq_true (show (l.length:Int)=(l.length:Int)∧(0:Int)=0∧l.length≤1000∧0≤ps0.f0∧0≤ps0.f1∧0≤ps0.t0∧0≤ps0.t1 from ⟨rfl,rfl,h1,by decide,by decide,by decide,by decide⟩)]
  rfl
 rw [hok,cond_true]
 unfold passF
 cases hp:K5 c l l.length 0 ps0 with
 | none=>exact rfl
 | some s =>
  have I:=Ak1 _ _ _ _ Apn hp
  show (Ajz s).sat (fun y=>y=(Ae8 s,()))
  unfold Ajz Ae8
  cases s.an with
  | false=>exact rfl
  | true =>
   rw [show A4z s.f0 s.f1 s.t0 s.t1=true from decide_eq_true ⟨I.a,I.b,I.c,I.d⟩]
   cases decide (s.f0*s.t1<s.t0*s.f1) <;> cases s.o0 <;> cases s.o1 <;> exact rfl
theorem A57:CtxOk A54:=by
 refine Bt Am puPa (A0 is_passes (A0 is_sides (A0 is_sides1 A2))) ?_
 intro p hp d hd g hg
 simp only [List.mem_cons,List.not_mem_nil,or_false] at hp
 rcases hp with rfl | rfl | rfl
 ·simp only [C4] at hg
  rw [show Nat.beq 187 57=false from rfl,Bool.false_and] at hg
  cases hg
 ·simp only [C4] at hg
  rw [show Nat.beq 187 116=false from rfl,Bool.false_and] at hg
  cases hg
 ·have hl:Ah (bodyOf Tryz.f187)=[Aaz]:=by kernel_rfl
  simp only at hd hg
  rw [hl,List.mem_singleton] at hd
  subst hd
  have hk:keyOf Aaz=1:=by kernel_rfl
  rw [hk] at hg
  simp [C4] at hg
  subst hg
  exact B01
abbrev A58:PureT:=Bh [cPt,cPt,.sl cPt] [.b] Ak0 (fun x=>(passF ⟨x.1.1,x.1.2.1,x.2.1.1,x.2.1.2.1,false⟩ x.2.2.1,()))
theorem Ak2:A6 Tryz.prog 57 A58:=Bj A57 7 (fun x=>Vu ⟨x.1.1,x.1.2.1,x.2.1.1,x.2.1.2.1,false⟩ x.2.2.1) (fun x=>A55 x) fun x hok _=>by
 have h:Ak0 x=true:=hok
 unfold Ak0 at h
 simp only [Bool.and_eq_true,decide_eq_true_eq] at h
 exact A56 _ _ h.1 h.2.1 h.2.2.1 h.2.2.2
theorem is_fitsL:FnIs Tryz.prog (45,Tryz.f45):=⟨Tryz.func45,by kernel_rfl,by kernel_rfl⟩
noncomputable def Aug:Ctx:=F8 Tryz.prog [] [(45,Tryz.f45)] [((45,2),Au A50 A89 A8a)]
theorem Aea:CtxOk Aug:=by
 refine Bt Am puOk_nil (A0 is_fitsL A2) ?_
 intro p hp d hd g hg
 simp only [List.mem_singleton] at hp
 subst hp
 have hl:Ah (bodyOf Tryz.f45)=[A1i]:=by kernel_rfl
 simp only at hd hg
 rw [hl,List.mem_singleton] at hd
 subst hd
 have hk:keyOf A1i=2:=by kernel_rfl
 rw [hk] at hg
 simp [C4] at hg
 subst hg
 exact Aue
abbrev A8c:PureT:=Bh [.sl cPt] [.b] (fun _=>true) (fun x=>(x.1.all fp,()))
def A8d (l:List (TCT cPt)):Tree (TCTs [.b]):=bif decide ((l.length:Int)=(l.length:Int)∧(0:Int)=0) then bif l.all fp then .leaf (true,()) else .leaf (false,()) else .fail
theorem Aeb (l:List (TCT cPt)):(A8d l).sat (fun y=>y=(l.all fp,())):=by
 unfold A8d
 rw [decide_eq_true (show (l.length:Int)=(l.length:Int)∧(0:Int)=0 from ⟨rfl,rfl⟩)]
 cases l.all fp <;> exact rfl
theorem Ak3:A6 Tryz.prog 45 A8c:=Bj Aea 3 (fun x=>A8d x.1) (fun x=>by kernel_rfl) fun _ _ _=>Aeb _
theorem is_Ring:FnIs Tryz.prog (12,Tryz.f12):=⟨Tryz.func12,by kernel_rfl,by kernel_rfl⟩
abbrev Ak4:=TCTs [.sl cPt,cI]
def RingR (x y r:Int):Ak4:=bif K1 x y r != 0 then ([],2,()) else bif !(ringW x y r).all fp then ([],4,()) else (ringW x y r,0,())
abbrev Ak5:PureT:=Bh [A1] [.sl cPt,cI] (fun _=>true) (fun x=>((RingR x.1.1.1 x.1.1.2.1 x.1.2.1).1,(RingR x.1.1.1 x.1.1.2.1 x.1.2.1).2.1,()))
def A8e (x y r:Int):Tree Ak4:=bif K1 x y r != 0 then .leaf ([],2,()) else bif !(ringW x y r).all fp then .leaf ([],4,()) else .leaf (ringW x y r,0,())
theorem Aec (x y r:Int):(A8e x y r).sat (fun z=>z=RingR x y r):=by
 unfold A8e RingR
 cases K1 x y r != 0 <;> cases (ringW x y r).all fp <;> exact rfl
def plRi:List (Nat×PureT):=[(43,Kb),(44,Ajt),(45,A8c)]
theorem puRi:Cd Tryz.prog plRi:=puOk_cons (show Plain Tryz.prog 43 from ⟨_,Tryz.func43,by kernel_rfl,by kernel_rfl⟩) Kc (puOk_cons is_ring.plain Aub (puOk_cons is_fitsL.plain Ak3 puOk_nil))
theorem q_Ring:A6 Tryz.prog 12 Ak5:=Bj (An Am puRi (A0 is_Ring A2)) 5 (fun x=>A8e x.1.1.1 x.1.1.2.1 x.1.2.1) (fun x=>by kernel_rfl) fun _ _ _=>Aec _ _ _
theorem ringW_len (x y r:Int):(ringW x y r).length=16:=rfl
theorem is_Passes:FnIs Tryz.prog (18,Tryz.f18):=⟨Tryz.func18,by kernel_rfl,by kernel_rfl⟩
abbrev RPass:=TCTs [.b,cI]
abbrev P3:=TCTs [cPt,cPt,A1]
def Axs (x:P3):PC:=⟨x.1.1,x.1.2.1,x.2.1.1,x.2.1.2.1,false⟩
def Rv (x:P3):Ak4:=RingR x.2.2.1.1.1 x.2.2.1.1.2.1 x.2.2.1.2.1
def PassR (x:P3):RPass:=bif fp x.1&&fp x.2.1 then bif (Rv x).2.1 != 0 then (false,(Rv x).2.1,()) else (passF (Axs x) (Rv x).1,0,()) else (false,2,())
def Auh (x:P3):Bool:=decide ((Rv x).1.length≤1000)&&((Rv x).1.all fp&&(fp x.1&&fp x.2.1))
def A6w (x:P3):Tree RPass:=bif (Rv x).2.1 != 0 then .leaf (false,(Rv x).2.1,()) else bif Auh x then .leaf (passF (Axs x) (Rv x).1,0,()) else .fail
theorem Axt (x:P3):(Rv x).1.length≤1000∧(Rv x).1.all fp=true:=by
 unfold Rv RingR
 generalize x.2.2.1.1.1=a
 generalize x.2.2.1.1.2.1=b
 generalize x.2.2.1.2.1=r
 cases K1 a b r != 0 with
 | true=>exact ⟨Nat.zero_le _,rfl⟩
 | false =>
  cases h:(ringW a b r).all fp with
  | true=>exact ⟨by show (ringW a b r).length≤1000;rw [ringW_len];omega,h⟩
  | false=>exact ⟨Nat.zero_le _,rfl⟩
theorem Apo {x:P3} (ha:fp x.1=true) (hb:fp x.2.1=true):(A6w x).sat (fun y=>y=PassR x):=by
 unfold A6w PassR
 rw [ha,hb]
 have h:=Axt x
 rw [show Auh x=true by unfold Auh;rw [ha,hb,h.2,decide_eq_true h.1];rfl]
 cases (Rv x).2.1 != 0 <;> exact rfl
abbrev Ak6:PureT:=Bh [cPt,cPt,A1] [.b,cI] (fun _=>true) (fun x=>((PassR x).1,(PassR x).2.1,()))
def plPq:List (Nat×PureT):=[(45,A8c),(12,Ak5),(57,A58)]
theorem puPq:Cd Tryz.prog plPq:=puOk_cons is_fitsL.plain Ak3 (puOk_cons is_Ring.plain q_Ring (puOk_cons is_passes.plain Ak2 puOk_nil))
def Vv (x:P3):Tree RPass:=bif !([x.1,x.2.1].all fp) then .leaf (false,2,()) else A6w x
theorem q_Passes:A6 Tryz.prog 18 Ak6:=Bj (An Am puPq (A0 is_Passes A2)) 5 Vv (fun x=>by kernel_rfl) fun x _ _=>by
 show (Vv x).sat (fun y=>y=PassR x)
 unfold Vv
 rw [List.all_cons,List.all_cons,List.all_nil,Bool.and_true]
 cases ha:fp x.1 with
 | false=>unfold PassR;rw [ha];exact rfl
 | true=>cases hb:fp x.2.1 with
  | false=>unfold PassR;rw [ha,hb];exact rfl
  | true=>exact Apo ha hb
end Rg
end V
end Go.Proofs.YtlangijnealfjaaGreat
namespace Go.Proofs.YtlangijnealfjaaGreat
open Go.RowKit
namespace V
open St
theorem is_sgcuts:FnIs Tryz.prog (42,Tryz.f42):=⟨Tryz.func42,by kernel_rfl,by kernel_rfl⟩
def CtR (ax ay bx bY px py r:Int):Bool×Int:=bif fpt ax ay&&(fpt bx bY&&u_cdOk px py r) then (decide (LsV ax ay bx bY px py r<0),0) else (false,2)
abbrev TB2:=Tree (TCTs [.b,cI])
def A8f (ax ay bx bY px py r:Int):TB2:=A67 ax ay (.leaf (false,2,())) (A67 bx bY (.leaf (false,2,())) (bif K1 px py r != 0 then .leaf (false,2,()) else bif Zu ax ay bx bY px py r then .leaf (decide (LsV ax ay bx bY px py r<0),0,()) else .fail))
theorem Aed {ax ay bx bY px py r:Int} (a1:inK .i64 ax) (a2:inK .i64 ay) (a3:inK .i64 bx) (a4:inK .i64 bY):(A8f ax ay bx bY px py r).sat (fun y=>y=((CtR ax ay bx bY px py r).1,(CtR ax ay bx bY px py r).2,())):=by
 unfold A8f A67
 refine Fw a1 a2 (fun k=>?_) (fun k1=>Fw a3 a4 (fun k=>?_) (fun k2=>?_))
 ·refine A8 ?_
  unfold CtR;rw [k];rfl
 ·refine A8 ?_
  unfold CtR;rw [k1,k];rfl
 ·unfold CtR K1
  rw [k1,k2]
  cases h:u_cdOk px py r with
  | false=>exact A8 rfl
  | true =>
   have:Zu ax ay bx bY px py r=true:=by
    unfold u_cdOk at h
    rw [Bool.and_eq_true,Bool.not_eq_true'] at h
    unfold Zu
    rw [k1,k2,h.1]
    have o:=A0j h.2
    have:Bd r 0 8388608=false:=by unfold Bd;rw [decide_eq_false (by omega),decide_eq_false (by omega)];rfl
    rw [this];rfl
   rw [this]
   exact A8 rfl
def plCu:List (Nat×PureT):=(43,Kb)::(56,A66)::[]
theorem puCu:Cd Tryz.prog plCu:=puOk_cons is_CheckDisc.plain Kc (puOk_cons is_lies.plain Af1 puOk_nil)
abbrev Aui:PureT:=Bh [cPt,cPt,A1] [.b,cI] (fun _=>true) (fun x=>((CtR x.1.1 x.1.2.1 x.2.1.1 x.2.1.2.1 x.2.2.1.1.1 x.2.2.1.1.2.1 x.2.2.1.2.1).1,(CtR x.1.1 x.1.2.1 x.2.1.1 x.2.1.2.1 x.2.2.1.1.1 x.2.2.1.1.2.1 x.2.2.1.2.1).2,()))
theorem Ak7:A6 Tryz.prog 17 Aui:=Bj (An Am puCu (A0 is_Cuts (A0 is_fits A2))) 3 (fun x=>A8f x.1.1 x.1.2.1 x.2.1.1 x.2.1.2.1 x.2.2.1.1.1 x.2.2.1.1.2.1 x.2.2.1.2.1) (fun x=>by kernel_rfl) fun _ _ hw=>Aed hw.1.1 hw.1.2.1 hw.2.1.1 hw.2.1.2.1
abbrev A8g:TC:=.st [cI,cI,cPt,cPt]
def A8h (s:TCT A8g) (d:TCT A1):Bool:=(CtR s.2.2.1.1 s.2.2.1.2.1 s.2.2.2.1.1 s.2.2.2.1.2.1 d.1.1 d.1.2.1 d.2.1).1
abbrev A59:PureT:=Bh [A8g,A1] [.b] (fun _=>true) (fun x=>(A8h x.1 x.2.1,()))
theorem Ak8:A6 Tryz.prog 42 A59:=Bj (An Am (puOk_cons is_Cuts.plain Ak7 puOk_nil) (A0 is_sgcuts A2)) 4 (fun x=>.leaf (A8h x.1 x.2.1,())) (fun x=>by kernel_rfl) fun _ _ _=>A8 rfl
def plSg:List (Nat×PureT):=(42,A59)::[]
theorem puSg:Cd Tryz.prog plSg:=puOk_cons is_sgcuts.plain Ak8 puOk_nil
theorem is_ixSeg:FnIs Tryz.prog (58,Tryz.f58):=⟨Tryz.func58,by kernel_rfl,by kernel_rfl⟩
theorem is_cfSeg:FnIs Tryz.prog (41,Tryz.f41):=⟨Tryz.func41,by kernel_rfl,by kernel_rfl⟩
abbrev I9:List SK:=[.d A8g]
def Cx (k:SKTs I9) (x:TCT (A1)):Bool:=A8h k.1 x
noncomputable def A5a:Code:=(Ah (bodyOf Tryz.f58)).getD 0 .skip
def Jp:Lay:={ keys:=[0,1,7,8],ks:=[.d (.sl (A1)),.f 42 I9 [],.d cI,.d cI],bs:=[],n:=19,nx:=1000,marks:=[] }
def Ak9:Lay:={ keys:=[4],ks:=[.d cI],bs:=[],n:=19,nx:=1000,marks:=[] }
def Aka:Lay:={ keys:=[],ks:=[],bs:=[],n:=19,nx:=1000,marks:=[] }
def I1:XE→Lay
 | .ret=>Ak9
 | _=>Aka
def A5b (k:SKTs I9) (l:List (TCT (A1))) (n i:Int):Jp.T:=((l,(k,()),n,i,()),())
def Sm (i:Int):A4 I1:=⟨.ret,((i,()),())⟩
def So:A4 I1:=⟨.exit 0,((),())⟩
def Jq (k:SKTs I9) (l:List (TCT (A1))) (n:Int) (x:TCT (A1)) (i:Int):Tree (Jp.T⊕A4 I1):=bif Cx k x then .leaf (.inr (Sm i)) else .leaf (.inl (A5b k l n (W64 (i+1))))
def Akb (k:SKTs I9) (l:List (TCT (A1))) (n i:Int):Tree (Jp.T⊕A4 I1) :=
 bif decide (i<n) then bif decide (0≤i∧i<(l.length:Int)) then Jq k l n (A7 l i.toNat (A5 (A1))) i else .fail else .leaf (.inr So)
def Q7 (g:Jp.T):Tree (A4 I1) :=
 .br (Ge g.1.2.2.1 g.1.2.2.2.1 g.1.1) (.br (g.1.1.any (Cx g.1.2.1.1)) (.leaf (Sm (g.1.1.findIdx (Cx g.1.2.1.1)))) (.leaf So)) .fail
theorem App:Av Tryz.prog 58 A5a (Au Jp I1 Q7):=by
 refine Ew (X:=ctx Tryz.prog plSg []) (An Am puSg A2) 7 58 (fun _=>none) (fun _ _ f h=>by simp at h) Jp I1 (fun e=>by cases e <;> exact Nat.le_refl _) Q7 (fun g=>Akb g.1.2.1.1 g.1.1 g.1.2.2.1 g.1.2.2.2.1) (fun g=>by kernel_rfl) ?_
 rintro ⟨⟨l,⟨k,⟨⟩⟩,n,i,⟨⟩⟩,⟨⟩⟩ R hw hf
 obtain ⟨hf,h0⟩:=hf
 by_cases hc:n=(l.length:Int)∧i=0
 ·obtain ⟨rfl,rfl⟩:=hc
  have hf:=hf (decide_eq_true ⟨rfl,rfl⟩)
  refine Aei l (A5 (A1)) (Ej hw.1.1) (fun n i _=>A5b k l n i) (fun x i (_:Unit)=>bif Cx k x then .inr (Sm i) else .inl ()) (fun _=>So) (fun _=>True) (fun x i _=>Jq k l l.length x i) (fun i _=>rfl) ?_ () trivial ?_
  ·intro i _ hi Q _ _ hw1 hQ
   show (Jq k l l.length l[i] i).sat Q
   unfold Jq
   rw [hw1]
   cases hp:Cx k l[i] with
   | true=>rw [hp] at hQ;exact hQ
   | false=>rw [hp] at hQ;exact hQ trivial
  ·rw [Jr (Cx k) (fun i=>Sm i) So l 0,Nat.zero_add]
   cases ha:l.any (Cx k) with
   | true=>exact hf.1 ha
   | false=>exact hf.2 ha
 ·exact (h0 (decide_eq_false hc)).elim
abbrev Ab1:PureT:=Gl [.d (.sl (A1)),.f 42 I9 []] [cI] (fun _=>true) (fun x=>(bif x.1.any (Cx x.2.1.1) then (x.1.findIdx (Cx x.2.1.1):Int) else -1,()))
noncomputable def Apq:Ctx:=F8 Tryz.prog plSg [(58,Tryz.f58)] [((58,keyOf A5a),Au Jp I1 Q7)]
theorem A8i:CtxOk Apq:=Bt Am puSg (A0 is_ixSeg A2) (C3 rfl (by kernel_rfl) App)
def Ab2 (k:SKTs I9) (l:List (TCT (A1))):Tree (Int×Unit):=bif Ge (l.length:Int) 0 l then bif l.any (Cx k) then .leaf ((l.findIdx (Cx k):Int),()) else .leaf (-1,()) else .fail
theorem A8j (k:SKTs I9) (l:List (TCT (A1))):(Ab2 k l).sat (fun y=>y=(bif l.any (Cx k) then (l.findIdx (Cx k):Int) else -1,())):=by
 refine Im (decide_eq_true ⟨rfl,rfl⟩) ?_
 cases l.any (Cx k) <;> exact rfl
theorem Ab3:A6 Tryz.prog 58 Ab1:=K0 A8i 8 (fun x=>Ab2 x.2.1.1 x.1) (fun x=>by kernel_rfl) fun x _ _=>A8j _ _
abbrev Ab4:PureT:=Gl [.d (.sl (A1)),.f 42 I9 []] [.b] (fun _=>true) (fun x=>(x.1.any (Cx x.2.1.1),()))
theorem A8k (k:SKTs I9) (l:List (TCT (A1))):(Tree.leaf (decide ((bif l.any (Cx k) then (l.findIdx (Cx k):Int) else -1)≥0),()):Tree (Bool×Unit)).sat (fun y=>y=(l.any (Cx k),())):=by
 rw [M1];exact rfl
theorem Apr:A6 Tryz.prog 41 Ab4:=K0 (An Am (puOk_cons is_ixSeg.plain Ab3 puOk_nil) (A0 is_cfSeg A2)) 8 (fun x=>.leaf (decide ((bif x.1.any (Cx x.2.1.1) then (x.1.findIdx (Cx x.2.1.1):Int) else -1)≥0),())) (fun x=>by kernel_rfl) fun x _ _=>A8k _ _
end V
end Go.Proofs.YtlangijnealfjaaGreat
