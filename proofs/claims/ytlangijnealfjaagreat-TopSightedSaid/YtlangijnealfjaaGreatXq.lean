import Derived.Test.YtlangijnealfjaaGreatAg
namespace Go.Proofs.YtlangijnealfjaaGreat
open Go.RowKit
namespace V
namespace Rg
abbrev Amq:TC:=.st [cI,cI]
abbrev okLft (x:TCTs [cPt,cPt,cPt]):Bool:=A8y x.1.1 x.1.2.1 x.2.1.1 x.2.1.2.1 x.2.2.1.1 x.2.2.1.2.1
theorem is_below:FnIs Tryz.prog (117,Tryz.f117):=⟨Tryz.func117,by kernel_rfl,by kernel_rfl⟩
def plBe:List (Nat×PureT):=[(114,X4),(115,Ny)]
theorem puBe:Ca Tryz.prog plBe:=puOk_cons is_times.plain A67 (puOk_cons is_compare.plain Vf puOk_nil)
def prv (a b c d:Int):Int:=((18446744073709551616*(a*d / 18446744073709551616)+a*d % 18446744073709551616)-(18446744073709551616*(c*b / 18446744073709551616)+c*b % 18446744073709551616)).sign
def A2h (a b c d:Int):Bool:=decide (0≤a∧0≤b∧0≤c∧0≤d)
def Z3 (a b c d:Int):Tree (TCTs [.b]):=bif decide (0≤a∧0≤d) then bif decide (0≤c∧0≤b) then .leaf (decide (prv a b c d<0),()) else .fail else .fail
theorem A5q (a b c d:Int) (h:A2h a b c d=true):(Z3 a b c d).sat (fun y=>y=(decide (a*d<c*b),())):=by
 obtain ⟨h1,h2,h3,h4⟩:=of_decide_eq_true h
 unfold Z3 prv
 rw [decide_eq_true (show 0≤a∧0≤d from ⟨h1,h4⟩),decide_eq_true (show 0≤c∧0≤b from ⟨h3,h2⟩),show 18446744073709551616*(a*d / 18446744073709551616)+a*d % 18446744073709551616=a*d by omega,show 18446744073709551616*(c*b / 18446744073709551616)+c*b % 18446744073709551616=c*b by omega]
 show (decide ((a*d-c*b).sign<0),())=_
 congr 1
 rcases Int.lt_trichotomy (a*d) (c*b) with k | k | k
 ·rw [Kp k,decide_eq_true k];rfl
 ·rw [Kr k,decide_eq_false (show ¬ a*d<c*b by omega)];rfl
 ·rw [Kq k,decide_eq_false (show ¬ a*d<c*b by omega)];rfl
abbrev A85:PureT:=B9 [Amq,Amq] [.b] (fun x=>A2h x.1.1 x.1.2.1 x.2.1.1 x.2.1.2.1) (fun x=>(decide (x.1.1*x.2.1.2.1<x.2.1.1*x.1.2.1),()))
theorem Al7:A5 Tryz.prog 117 A85:=Bb (Aj Ak puBe (A0 is_below A2)) 3
 (fun x=>Z3 x.1.1 x.1.2.1 x.2.1.1 x.2.1.2.1) (fun x=>by kernel_rfl) fun _ hok _=>A5q _ _ _ _ hok
theorem is_ring:FnIs Tryz.prog (44,Tryz.f44):=⟨Tryz.func44,by kernel_rfl,by kernel_rfl⟩
def tab:List (Int×Int):=[(4096,0),(3784,1567),(2896,2896),(1567,3784),(0,4096),(-1567,3784),(-2896,2896),(-3784,1567),(-4096,0),(-3784,-1567),(-2896,-2896),(-1567,-3784),(0,-4096),(1567,-3784),(2896,-2896),(3784,-1567)]
def Asg (x y r:Int) (t:Int×Int):TCT cPt:=(W64 (x+W64 ((W64 (r*t.1)).tdiv 4096)),W64 (y+W64 ((W64 (r*t.2)).tdiv 4096)),())
def ringW (x y r:Int):List (TCT cPt):=tab.map (Asg x y r)
abbrev Agi:PureT:=B9 [A1] [.sl cPt] (fun _=>true) (fun x=>(ringW x.1.1.1 x.1.1.2.1 x.1.2.1,()))
theorem Ap8:A5 Tryz.prog 44 Agi:=A5e (Aj Ak puOk_nil (A0 is_ring A2)) 7 (fun x=>by kernel_rfl)
theorem I9 {i n:Nat} (h:i<n) (hn:(n:Int)≤Au .i64):W64 ((i:Int)+1)=((i+1:Nat):Int):=by
 simp only [Au] at hn
 rw [show W64 ((i:Int)+1)=(i:Int)+1 from A8 (by omega) (by omega)];rfl
theorem Agj {x:Int} (h:inK .i64 x) : -9223372036854775808≤x∧x≤9223372036854775807:=h
def Al8 (x y:Int):Bool:=decide (max (max (max x (W64 (0-x))) y) (W64 (0-y))>4194304)
def Ap9 (x y:Int):Bool:=decide (min x y < -4194304)
theorem Al9 {x y:Int} (hx:inK .i64 x) (hy:inK .i64 y):(Al8 x y||Ap9 x y)=!fpt x y:=by
 have ⟨x1,x2⟩:=Agj hx
 have ⟨y1,y2⟩:=Agj hy
 unfold Al8 Ap9 fpt
 rw [← Bool.decide_or,← decide_not]
 congr 1
 apply propext
 by_cases h1:x = -9223372036854775808
 ·constructor
  ·intro _ h;omega
  ·intro _;right;omega
 ·by_cases h2:y = -9223372036854775808
  ·constructor
   ·intro _ h;omega
   ·intro _;right;omega
  ·rw [show W64 (0-x)=0-x from A8 (by omega) (by omega),show W64 (0-y)=0-y from A8 (by omega) (by omega)]
   omega
noncomputable def Z4:Code:=(Ai (bodyOf Tryz.f45)).getD 0 .skip
def A2i:Lay:={ keys:=[2,5,6,7],ks:=[.d .b,.d (.sl cPt),.d cI,.d cI],bs:=[],n:=32,nx:=1000,marks:=[] }
def Apa:Lay:={ keys:=[2],ks:=[.d .b],bs:=[],n:=32,nx:=1000,marks:=[] }
def A5r:XE→Lay:=fun _=>Apa
def Fg (b:Bool) (l:List (TCT cPt)) (n i:Int):A2i.T:=((b,l,n,i,()),())
def Fr (b:Bool):Apa.T:=((b,()),())
def A2j (b:Bool) (l:List (TCT cPt)) (n i:Int):Tree (A2i.T⊕A4 A5r) :=
 bif decide (i<n) then bif decide (0≤i∧i<(l.length:Int)) then
  bif Al8 (Ar l i.toNat (Ap cPt)).1 (Ar l i.toNat (Ap cPt)).2.1 then .leaf (.inr ⟨.ret,Fr false⟩) else
  bif Ap9 (Ar l i.toNat (Ap cPt)).1 (Ar l i.toNat (Ap cPt)).2.1 then .leaf (.inr ⟨.ret,Fr false⟩) else .leaf (.inl (Fg b l n (W64 (i+1)))) else .fail else .leaf (.inr ⟨.exit 0,Fr b⟩)
def fp (p:TCT cPt):Bool:=fpt p.1 p.2.1
def A5s (g:A2i.T):Tree (A4 A5r) :=
 .br (decide (g.1.2.2.1=(g.1.2.1.length:Int)∧g.1.2.2.2.1=0)) (.br (g.1.2.1.all fp) (.leaf ⟨.exit 0,Fr g.1.1⟩) (.leaf ⟨.ret,Fr false⟩)) .fail
def Ala (p:TCT cPt) (_:Nat) (_:Unit):Unit⊕A4 A5r:=bif fp p then .inl () else .inr ⟨.ret,Fr false⟩
theorem Agk (b:Bool):∀ (l:List (TCT cPt)) (i:Nat),A1s Ala (fun _=>(⟨.exit 0,Fr b⟩:A4 A5r)) l i ()=bif l.all fp then ⟨.exit 0,Fr b⟩ else ⟨.ret,Fr false⟩
 | [],i=>rfl
 | p::l,i=>by
  simp only [A1s,Ala,List.all_cons]
  cases fp p with
  | false=>rfl
  | true=>exact Agk b l (i+1)
theorem Apb:As Tryz.prog 45 Z4 (Aq A2i A5r A5s):=by
 refine El (X:=ctx Tryz.prog [] []) (Aj Ak puOk_nil A2) 7 45 (fun _=>none) (fun _ _ f h=>by simp at h) A2i A5r (fun _=>Nat.le_refl _) A5s (fun g=>A2j g.1.1 g.1.2.1 g.1.2.2.1 g.1.2.2.2.1) (fun g=>by kernel_rfl) ?_
 rintro ⟨⟨b,l,n,i,⟨⟩⟩,⟨⟩⟩ R hw hf
 obtain ⟨hf,h0⟩:=hf
 by_cases hc:n=(l.length:Int)∧i=0
 ·obtain ⟨rfl,rfl⟩:=hc
  have hf:=hf (decide_eq_true ⟨rfl,rfl⟩)
  have hlen:(l.length:Int)≤Au .i64:=by
   simp only [Lay.WF,A2i,WFKs,WFK,WFD] at hw
   exact hw.1.2.1.1
  have hmem:∀ p ∈ l,inK .i64 p.1∧inK .i64 p.2.1:=by
   simp only [Lay.WF,A2i,WFKs,WFK,WFD] at hw
   intro p hp
   have:=hw.1.2.1.2 p hp
   simp only [WFD,WFDs] at this
   exact ⟨this.1,this.2.1⟩
  refine ⟨_,Ou l (fun i _=>Fg b l l.length i) Ala (fun _=>⟨.exit 0,Fr b⟩) (fun _=>True) ?_ ?_ l.length 0 () (by omega) trivial ?_⟩
  ·intro i _ hi Q _ _ hQ
   show (A2j b l l.length i).sat Q
   unfold A2j
   rw [decide_eq_true (show (i:Int)<l.length by omega),decide_eq_true (show 0≤(i:Int)∧(i:Int)<l.length by omega),cond_true,cond_true,I9 hi hlen]
   have ht:(i:Int).toNat=i:=by omega
   rw [ht,Cl hi]
   obtain ⟨k1,k2⟩:=hmem l[i] (List.getElem_mem hi)
   have kb:=Al9 k1 k2
   unfold Ala fp at hQ
   cases c1:Al8 l[i].1 l[i].2.1 with
   | true =>
    rw [c1,Bool.true_or] at kb
    rw [show fpt l[i].1 l[i].2.1=false by simpa using kb.symm] at hQ
    exact hQ
   | false =>
    rw [c1,Bool.false_or] at kb
    rw [kb]
    cases c2:fpt l[i].1 l[i].2.1 with
    | true=>rw [c2] at hQ;exact hQ trivial
    | false=>rw [c2] at hQ;exact hQ
  ·intro _ Q _ hQ
   show (A2j b l l.length l.length).sat Q
   unfold A2j
   rw [decide_eq_false (show ¬ (l.length:Int)<l.length by omega)]
   exact hQ
  ·rw [List.drop_zero,Agk]
   obtain ⟨h1,h2⟩:=hf
   have hwr:∀ b,Apa.WF (Fr b):=fun _=>⟨⟨trivial,trivial⟩,trivial⟩
   cases ha:l.all fp with
   | true=>exact h1 ha
   | false=>exact h2 ha
 ·exact (h0 (decide_eq_false hc)).elim
structure PS where
 f0:Int
 f1:Int
 t0:Int
 t1:Int
 o0:Bool
 o1:Bool
 an:Bool
def PS.low (s:PS) (x y:Int):PS:={ s with f0:=W64 (0-x),f1:=W64 (y-x),o0:=true,an:=true }
def PS.up (s:PS) (x y:Int):PS:={ s with t0:=x,t1:=W64 (x-y),o1:=true,an:=true }
def PS.one (s:PS):PS:={ s with an:=true }
structure PC where
 ax:Int
 ay:Int
 bx:Int
 bY:Int
 rb:Bool
def plPa:List (Nat×PureT):=[(113,A3j),(117,A85)]
theorem puPa:Ca Tryz.prog plPa:=puOk_cons is_left.plain Abl (puOk_cons is_below.plain Al7 puOk_nil)
noncomputable def Q4:LK:={ id:=9,keys:=[3,4,6,7,8,9,10],ks:=[.p 0 0 0 0,.p 1 0 0 0,.p 2 0 0 0,.p 3 0 0 0,.p 4 0 0 0,.p 5 0 0 0,.p 6 0 0 0],n:=92,fn:=57,params:=[22,23],assign:=(rangeAt Tryz.f57 0).1,body:=(rangeAt Tryz.f57 0).2,df:=8,st:=some 0 }
noncomputable def A2k:LK:={ id:=9,keys:=[],ks:=[],n:=92,fn:=57,params:=[22,23],assign:=(rangeAt Tryz.f57 0).1,body:=(rangeAt Tryz.f57 0).2,df:=8,st:=some 1 }
def Amr:List BK:=[(0,28,[.d cI,.d cI]),(1,28,[.d cI,.d cI]),(2,4,[.d .b]),(3,253,[.d cI,.d cI]),(4,253,[.d cI,.d cI]),(5,110,[.d .b,.d .b]),(6,4,[.d .b]),(7,44,[.d (.sl cPt)])]
noncomputable def H6:Lay2:={ keys:=[0,1,6,7,8],ks:=[.y 9,.p 7 0 0 0,.d (.sl cPt),.d cI,.d cI],bs:=Amr,ls:=[Q4],n:=32,nx:=1000,marks:=[],ds:=[8] }
noncomputable def Ash:Lay2:={ keys:=[],ks:=[],bs:=[(2,4,[.d .b])],ls:=[A2k],n:=32,nx:=1000,marks:=[],ds:=[8] }
noncomputable def Me:XE→Lay2:=fun e=>match e with | .ret=>Ash | _=>H6
abbrev lPa:LTs [Q4]:=(((((),(),(),(),(),(),(),()):SKTs Q4.ks),((():Unit):StT Q4.st)),())
abbrev lPr:LTs [A2k]:=((((():Unit):SKTs A2k.ks),((():Unit):StT A2k.st)),())
def bPa (c:PC) (m:List (TCT cPt)) (s:PS):BTs Amr:=((c.ax,c.ay,()),(c.bx,c.bY,()),(c.rb,()),(s.f0,s.f1,()),(s.t0,s.t1,()),(s.o0,s.o1,()),(s.an,()),(m,()),())
def Pg (l:List (TCT cPt)) (n i:Int) (c:PC) (m:List (TCT cPt)) (s:PS):H6.T:=(((),(),l,n,i,()),bPa c m s,lPa)
def Pr (b:Bool):Ash.T:=((),((b,()),()),lPr)
section
variable (next:PS→Tree (H6.T⊕Bj Me)) (s:PS) (x y:Int)
def Alb:Tree (H6.T⊕Bj Me) :=
 bif !s.o0 then next (s.low x y) else bif A2h s.f0 s.f1 (W64 (0-x)) (W64 (y-x)) then bif decide (s.f0*W64 (y-x)<W64 (0-x)*s.f1) then next (s.low x y) else next s.one else .fail
def upT:Tree (H6.T⊕Bj Me) :=
 bif !s.o1 then next (s.up x y) else bif A2h x (W64 (x-y)) s.t0 s.t1 then bif decide (x*s.t1<s.t0*W64 (x-y)) then next (s.up x y) else next s.one else .fail
def Apc:Tree (H6.T⊕Bj Me) :=
 bif decide (x≤0) then
  bif decide (y≤0) then .need (E2 [A2k]) (.leaf (.inr ⟨.ret,Pr false⟩)) else bif decide (x≤0) then Alb next s x y else bif decide (y≤0) then upT next s x y else next s.one
 else bif decide (x≤0) then Alb next s x y else bif decide (y≤0) then upT next s x y else next s.one
end
def Nu (l:List (TCT cPt)) (i:Int):TCT cPt:=Ar l i.toNat (Ap cPt)
def nxt (m:List (TCT cPt)) (i:Int):Int:=(W64 (i+1)).tmod (m.length:Int)
def A2l (q p:TCT cPt):Bool:=q.1==p.1&&(q.2.1==p.2.1&&true)
def lfP (p q:TCT cPt) (x y:Int):Int:=lft p.1 p.2.1 q.1 q.2.1 x y
def okL (p q:TCT cPt) (x y:Int):Bool:=fpt p.1 p.2.1&&(fpt q.1 q.2.1&&fpt x y)
def A2m (l:List (TCT cPt)) (n i:Int) (c:PC) (m:List (TCT cPt)) (s:PS):Tree (H6.T⊕Bj Me) :=
 bif decide (i<n) then bif decide (0≤i∧i<(l.length:Int)) then bif (m.length:Int)!=0 then bif decide (0≤nxt m i∧nxt m i<(m.length:Int)) then
 bif !A2l (Nu m (nxt m i)) (Nu l i) then
  bif okL (Nu l i) (Nu m (nxt m i)) c.ax c.ay then bif okL (Nu l i) (Nu m (nxt m i)) c.bx c.bY then
   Apc (fun s=>.need (E2 [Q4]) (.leaf (.inl (Pg l n (W64 (i+1)) c m s)))) s (lfP (Nu l i) (Nu m (nxt m i)) c.ax c.ay) (lfP (Nu l i) (Nu m (nxt m i)) c.bx c.bY)
  else .fail else .fail
 else .need (E2 [Q4]) (.leaf (.inl (Pg l n (W64 (i+1)) c m s)))
 else .fail else .fail else .fail else .need (E2 [Q4]) (.leaf (.inr ⟨.exit 0,Pg l n i c m s⟩))
noncomputable def A86:Code:=(Ai (bodyOf Tryz.f187)).getD 0 .skip
noncomputable def Alc:Ctx:=ctx Tryz.prog plPa [(57,Tryz.f57)]
def pcP (g:H6.T):PC:=⟨g.2.1.1.1,g.2.1.1.2.1,g.2.1.2.1.1,g.2.1.2.1.2.1,g.2.1.2.2.1.1⟩
def psP (g:H6.T):PS:=⟨g.2.1.2.2.2.1.1,g.2.1.2.2.2.1.2.1,g.2.1.2.2.2.2.1.1,g.2.1.2.2.2.2.1.2.1,g.2.1.2.2.2.2.2.1.1,g.2.1.2.2.2.2.2.1.2.1,g.2.1.2.2.2.2.2.2.1.1⟩
def mP (g:H6.T):List (TCT cPt):=g.2.1.2.2.2.2.2.2.2.1.1
theorem Auf (g:H6.T):evC Tryz.prog (D7 Alc 7) Alc.pures 187 Alc.u (fun _=>none) A86 (H6.of g) (E3 H6 Me)=A2m g.1.2.2.1 g.1.2.2.2.1 g.1.2.2.2.2.1 (pcP g) (mP g) (psP g):=by kernel_rfl
def PS.lowP (s:PS) (x y:Int):PS:={ s with f0:=0-x,f1:=y-x,o0:=true,an:=true }
def PS.upP (s:PS) (x y:Int):PS:={ s with t0:=x,t1:=x-y,o1:=true,an:=true }
def pSt (x y:Int) (s:PS):Option PS :=
 bif decide (x≤0)&&decide (y≤0) then none else
 bif decide (x≤0) then some (bif !s.o0||decide (s.f0*(y-x)<(0-x)*s.f1) then s.lowP x y else s.one) else
 bif decide (y≤0) then some (bif !s.o1||decide (x*s.t1<s.t0*(x-y)) then s.upP x y else s.one) else some s.one
def U8 (c:PC) (l:List (TCT cPt)) (i:Nat) (s:PS):Option PS :=
 bif A2l (Ar l ((i+1) % l.length) (Ap cPt)) (Ar l i (Ap cPt)) then some s else
 pSt (lfP (Ar l i (Ap cPt)) (Ar l ((i+1) % l.length) (Ap cPt)) c.ax c.ay) (lfP (Ar l i (Ap cPt)) (Ar l ((i+1) % l.length) (Ap cPt)) c.bx c.bY) s
def Mf (c:PC) (l:List (TCT cPt)):Nat→Nat→PS→Option PS
 | 0,_,s=>some s
 | f+1,i,s=>(U8 c l i s).bind fun s'=>Mf c l f (i+1) s'
def okP (x:Option PS):Bool:=match x with
 | some _=>true
 | none=>false
def ps0:PS:=⟨0,1,1,1,false,false,false⟩
def Aer (x:Option PS):PS:=match x with
 | some s=>s
 | none=>ps0
structure PInv (s:PS):Prop where
 a:0≤s.f0
 b:0≤s.f1
 c:0≤s.t0
 d:0≤s.t1
theorem A87 {x y:Int} {s s':PS} (I:PInv s) (h:pSt x y s=some s'):PInv s':=by
 unfold pSt at h
 by_cases hx:x≤0
 ·by_cases hy:y≤0
  ·rw [decide_eq_true hx,decide_eq_true hy] at h;simp at h
  ·rw [decide_eq_true hx,decide_eq_false hy] at h
   simp only [Bool.and_false,cond_false,cond_true,Option.some.injEq] at h
   subst h
   cases (!s.o0||decide (s.f0*(y-x)<(0-x)*s.f1))
   ·exact ⟨I.a,I.b,I.c,I.d⟩
   ·exact ⟨by show 0≤0-x;omega,by show 0≤y-x;omega,I.c,I.d⟩
 ·by_cases hy:y≤0
  ·rw [decide_eq_false hx,decide_eq_true hy] at h
   simp only [Bool.false_and,cond_false,cond_true,Option.some.injEq] at h
   subst h
   cases (!s.o1||decide (x*s.t1<s.t0*(x-y)))
   ·exact ⟨I.a,I.b,I.c,I.d⟩
   ·exact ⟨I.a,I.b,by show 0≤x;omega,by show 0≤x-y;omega⟩
  ·rw [decide_eq_false hx,decide_eq_false hy] at h
   simp only [Bool.false_and,cond_false,Option.some.injEq] at h
   subst h
   exact ⟨I.a,I.b,I.c,I.d⟩
theorem Agl {next:PS→Tree (H6.T⊕Bj Me)} {s:PS} {x y:Int} {Q:H6.T⊕Bj Me→Prop} (I:PInv s) (x1 : -1000000000000000≤x) (x2:x≤1000000000000000) (y1 : -1000000000000000≤y) (y2:y≤1000000000000000)
  (h1:∀ s',pSt x y s=some s'→(next s').sat Q) (h2:pSt x y s=none→Q (.inr ⟨.ret,Pr false⟩)):(Apc next s x y).sat Q:=by
 unfold Apc
 by_cases hx:x≤0
 ·rw [decide_eq_true hx]
  by_cases hy:y≤0
  ·rw [decide_eq_true hy]
   refine ⟨Bp _,h2 ?_⟩
   unfold pSt;rw [decide_eq_true hx,decide_eq_true hy];rfl
  ·rw [decide_eq_false hy]
   have hp:pSt x y s=some (bif !s.o0||decide (s.f0*(y-x)<(0-x)*s.f1) then s.lowP x y else s.one):=by unfold pSt;rw [decide_eq_true hx,decide_eq_false hy];rfl
   have hn:=h1 _ hp
   have el:s.low x y=s.lowP x y:=by unfold PS.low PS.lowP;rw [show W64 (0-x)=0-x from A8 (by omega) (by omega),show W64 (y-x)=y-x from A8 (by omega) (by omega)]
   show (Alb next s x y).sat Q
   unfold Alb
   rw [el,show W64 (0-x)=0-x from A8 (by omega) (by omega),show W64 (y-x)=y-x from A8 (by omega) (by omega)]
   cases ho:s.o0 with
   | false=>rw [ho] at hn;exact hn
   | true =>
    rw [ho] at hn
    rw [show A2h s.f0 s.f1 (0-x) (y-x)=true from decide_eq_true ⟨I.a,I.b,by omega,by omega⟩]
    cases hd:decide (s.f0*(y-x)<(0-x)*s.f1) <;> (rw [hd] at hn;exact hn)
 ·rw [decide_eq_false hx]
  by_cases hy:y≤0
  ·rw [decide_eq_true hy]
   have hp:pSt x y s=some (bif !s.o1||decide (x*s.t1<s.t0*(x-y)) then s.upP x y else s.one):=by unfold pSt;rw [decide_eq_false hx,decide_eq_true hy];rfl
   have hn:=h1 _ hp
   have el:s.up x y=s.upP x y:=by unfold PS.up PS.upP;rw [show W64 (x-y)=x-y from A8 (by omega) (by omega)]
   show (upT next s x y).sat Q
   unfold upT
   rw [el,show W64 (x-y)=x-y from A8 (by omega) (by omega)]
   cases ho:s.o1 with
   | false=>rw [ho] at hn;exact hn
   | true =>
    rw [ho] at hn
    rw [show A2h x (x-y) s.t0 s.t1=true from decide_eq_true ⟨by omega,by omega,I.c,I.d⟩]
    cases hd:decide (x*s.t1<s.t0*(x-y)) <;> (rw [hd] at hn;exact hn)
  ·rw [decide_eq_false hy]
   exact h1 _ (by unfold pSt;rw [decide_eq_false hx,decide_eq_false hy];rfl)
theorem Agm {x y:Int} (h:fpt x y=true):(-4194304≤x∧x≤4194304)∧(-4194304≤y∧y≤4194304):=by
 unfold fpt at h
 obtain ⟨a,b,c,d⟩:=of_decide_eq_true h
 exact ⟨⟨a,b⟩,c,d⟩
theorem Agn {ax ay bx bY px py:Int} (h1:fpt ax ay=true) (h2:fpt bx bY=true) (h3:fpt px py=true) : -1000000000000000≤lft ax ay bx bY px py∧lft ax ay bx bY px py≤1000000000000000:=by
 have a:=Agm h1;have b:=Agm h2;have c:=Agm h3
 have t:=X5 (x:=bx-ax) (y:=py-ay) (u:=px-ax) (v:=bY-ay) (by omega) (by omega) (by omega) (by omega)
 unfold lft
 omega
def Aaz (l:List (TCT cPt)) (n i:Int) (c:PC) (s:PS):Bool:=decide (n=(l.length:Int)∧i=0∧l.length≤1000∧0≤s.f0∧0≤s.f1∧0≤s.t0∧0≤s.t1)&&(l.all fp&&(fpt c.ax c.ay&&fpt c.bx c.bY))
def A5t (g:H6.T):Tree (Bj Me) :=
 .need (mP g=g.1.2.2.1) (.br (Aaz g.1.2.2.1 g.1.2.2.2.1 g.1.2.2.2.2.1 (pcP g) (psP g))
  (.br (okP (Mf (pcP g) g.1.2.2.1 g.1.2.2.1.length 0 (psP g))) (.leaf ⟨.exit 0,Pg g.1.2.2.1 (g.1.2.2.1.length:Int) (g.1.2.2.1.length:Int) (pcP g) (mP g) (Aer (Mf (pcP g) g.1.2.2.1 g.1.2.2.1.length 0 (psP g)))⟩) (.leaf ⟨.ret,Pr false⟩)) .fail)
theorem Ab0 (c:PC) (l:List (TCT cPt)) (i:Nat) (s:PS):Mf c l 0 i s=some s:=rfl
theorem Wv (c:PC) (l:List (TCT cPt)) (f i:Nat) (s:PS):Mf c l (f+1) i s=(U8 c l i s).bind fun s'=>Mf c l f (i+1) s':=rfl
theorem Ams {l:List (TCT cPt)} (h:l.all fp=true) {i:Nat} (hi:i<l.length):fp (Ar l i (Ap cPt))=true:=List.all_eq_true.1 h _ (Nl hi _)
theorem Ald {step:H6.T→Tree (H6.T⊕Bj Me)} (hs:∀ l n i c m s,step (Pg l n i c m s)=A2m l n i c m s) (R:Bj Me→Prop) (l:List (TCT cPt)) (c:PC) (hl:l.length≤1000) (hf:l.all fp=true) (ha:fpt c.ax c.ay=true) (hb:fpt c.bx c.bY=true) (f:Nat) :
  ∀ (i:Nat) (s:PS),i+f=l.length→PInv s→(okP (Mf c l f i s)=true→R ⟨.exit 0,Pg l (l.length:Int) (l.length:Int) c l (Aer (Mf c l f i s))⟩)→(okP (Mf c l f i s)=false→R ⟨.ret,Pr false⟩) →
   Hl H6 Me step R (f+1) (Pg l (l.length:Int) (i:Int) c l s):=by
 induction f with
 | zero =>
  intro i s hi _ h1 _
  have e:i=l.length:=by omega
  subst e
  intro _
  rw [hs]
  unfold A2m
  rw [decide_eq_false (show ¬ (l.length:Int)<(l.length:Int) by omega)]
  exact ⟨Bp _,fun _=>h1 rfl⟩
 | succ f ih =>
  intro i s hi I h1 h2
  have hlt:i<l.length:=by omega
  have hl0:0<l.length:=by omega
  have hm:=Nat.mod_lt (i+1) hl0
  intro _
  rw [hs]
  unfold A2m
  rw [Wv] at h1 h2
  have en:nxt l (i:Int)=(((i+1) % l.length:Nat):Int):=by
   unfold nxt
   rw [show W64 ((i:Int)+1)=((i+1:Nat):Int) from (A8 (by omega) (by omega)).trans rfl]
   rfl
  have ep:Nu l (i:Int)=Ar l i (Ap cPt):=by unfold Nu;rw [show (i:Int).toNat=i by omega]
  have eq:Nu l (((i+1) % l.length:Nat):Int)=Ar l ((i+1) % l.length) (Ap cPt):=by unfold Nu;rw [Int.toNat_natCast]
  have f1:=Ams hf hlt
  have f2:=Ams hf hm
  rw [en,ep,eq,decide_eq_true (show (i:Int)<(l.length:Int) by omega),decide_eq_true (show 0≤(i:Int)∧(i:Int)<(l.length:Int) by omega),show ((l.length:Int)!=0)=true from bne_iff_ne.2 (by omega),decide_eq_true (show 0≤(((i+1) % l.length:Nat):Int)∧(((i+1) % l.length:Nat):Int)<(l.length:Int) from ⟨Int.natCast_nonneg _,Int.ofNat_lt.2 hm⟩),
   show W64 ((i:Int)+1)=((i+1:Nat):Int) from (A8 (by omega) (by omega)).trans rfl]
  have hstep:U8 c l i s=bif A2l (Ar l ((i+1) % l.length) (Ap cPt)) (Ar l i (Ap cPt)) then some s else pSt (lfP (Ar l i (Ap cPt)) (Ar l ((i+1) % l.length) (Ap cPt)) c.ax c.ay) (lfP (Ar l i (Ap cPt)) (Ar l ((i+1) % l.length) (Ap cPt)) c.bx c.bY) s:=rfl
  cases hsame:A2l (Ar l ((i+1) % l.length) (Ap cPt)) (Ar l i (Ap cPt)) with
  | true =>
   rw [hsame] at hstep
   rw [show U8 c l i s=some s from hstep,Option.bind_some] at h1 h2
   exact ⟨Bp _,ih (i+1) s (by omega) I h1 h2⟩
  | false =>
   rw [hsame,cond_false] at hstep
   generalize hp:Ar l i (Ap cPt)=p at *
   generalize hq:Ar l ((i+1) % l.length) (Ap cPt)=q at *
   have o1:okL p q c.ax c.ay=true:=by unfold okL;rw [show fpt p.1 p.2.1=true from f1,show fpt q.1 q.2.1=true from f2,ha];rfl
   have o2:okL p q c.bx c.bY=true:=by unfold okL;rw [show fpt p.1 p.2.1=true from f1,show fpt q.1 q.2.1=true from f2,hb];rfl
   have b1:=Agn (show fpt p.1 p.2.1=true from f1) (show fpt q.1 q.2.1=true from f2) ha
   have b2:=Agn (show fpt p.1 p.2.1=true from f1) (show fpt q.1 q.2.1=true from f2) hb
   rw [o1,o2]
   refine Agl I b1.1 b1.2 b2.1 b2.2 (fun s' hs'=>?_) (fun hs'=>?_)
   ·rw [hstep,hs',Option.bind_some] at h1 h2
    exact ⟨Bp _,ih (i+1) s' (by omega) (A87 I hs') h1 h2⟩
   ·rw [hstep,hs'] at h2
    exact fun _=>h2 rfl
theorem is_passes:FnIs Tryz.prog (57,Tryz.f57):=⟨Tryz.func57,by kernel_rfl,by kernel_rfl⟩
theorem is_sides:FnIs Tryz.prog (116,Tryz.f116):=⟨Tryz.func116,by kernel_rfl,by kernel_rfl⟩
theorem is_sides1:FnIs Tryz.prog (187,Tryz.f187):=⟨Tryz.func187,by kernel_rfl,by kernel_rfl⟩
theorem Aug:As Tryz.prog 187 A86 (Dc H6 Me A5t):=by
 refine Gx (X:=Alc) (Aj Ak puPa (A0 is_passes A2)) 7 187 (fun _=>none) (fun _ _ f h=>by simp at h) H6 Me (fun e=>by cases e <;> exact Nat.le_refl _) A5t (fun g=>A2m g.1.2.2.1 g.1.2.2.2.1 g.1.2.2.2.2.1 (pcP g) (mP g) (psP g)) Auf ?_
 intro g R _ hf
 obtain ⟨hm,hf,h0⟩:=hf
 cases hc:Aaz g.1.2.2.1 g.1.2.2.2.1 g.1.2.2.2.2.1 (pcP g) (psP g) with
 | false=>exact (h0 hc).elim
 | true =>
  obtain ⟨h1,h2⟩:=hf hc
  unfold Aaz at hc
  simp only [Bool.and_eq_true] at hc
  obtain ⟨hd,hfp,hfa,hfb⟩:=hc
  obtain ⟨k1,k2,k3,k4,k5,k6,k7⟩:=of_decide_eq_true hd
  have eg:g=Pg g.1.2.2.1 (g.1.2.2.1.length:Int) ((0:Nat):Int) (pcP g) g.1.2.2.1 (psP g):=by
   rw [show ((0:Nat):Int)=g.1.2.2.2.2.1 from k2.symm,← k1]
   show g=Pg g.1.2.2.1 g.1.2.2.2.1 g.1.2.2.2.2.1 (pcP g) g.1.2.2.1 (psP g)
   rw (occs:=.pos [2]) [← hm]
   rfl
  rw [hm] at h1
  refine ⟨g.1.2.2.1.length+1,?_⟩
  rw [eg]
  exact Ald (fun _ _ _ _ _ _=>rfl) R g.1.2.2.1 (pcP g) k3 hfp hfa hfb g.1.2.2.1.length 0 (psP g) (by omega) ⟨k4,k5,k6,k7⟩ h1 h2
noncomputable def A2n:Ctx:=Fu Tryz.prog plPa [(57,Tryz.f57),(116,Tryz.f116),(187,Tryz.f187)] [((187,1),Dc H6 Me A5t)]
def Ago (s:PS):Tree (TCTs [.b]) :=
 bif s.an then bif A2h s.f0 s.f1 s.t0 s.t1 then bif decide (s.f0*s.t1<s.t0*s.f1) then .leaf (true,()) else bif !s.o0 then .leaf (!s.o1,()) else .leaf (false,()) else .fail else .leaf (false,())
def U9 (c:PC) (l:List (TCT cPt)):Tree (TCTs [.b]) :=
 .need (E2 [Q4]) (.need (l=l) (bif Aaz l (l.length:Int) 0 c ps0 then bif okP (Mf c l l.length 0 ps0) then Ago (Aer (Mf c l l.length 0 ps0)) else .leaf (false,()) else .fail))
abbrev Agp (x:TCTs [cPt,cPt,.sl cPt]):Bool:=decide (x.2.2.1.length≤1000)&&(x.2.2.1.all fp&&(fpt x.1.1 x.1.2.1&&fpt x.2.1.1 x.2.1.2.1))
theorem A2o (x:TCTs [cPt,cPt,.sl cPt]):D7 A2n 7 (.fn 57) (D5 [cPt,cPt,.sl cPt] x) Bz 0 (Ge Tryz.prog [.b])=U9 ⟨x.1.1,x.1.2.1,x.2.1.1,x.2.1.2.1,false⟩ x.2.2.1:=by kernel_rfl
def Apd (s:PS):Bool:=s.an&&(decide (s.f0*s.t1<s.t0*s.f1)||(!s.o0&&!s.o1))
def A2p (c:PC) (l:List (TCT cPt)):Bool:=okP (Mf c l l.length 0 ps0)&&Apd (Aer (Mf c l l.length 0 ps0))
theorem Ab1 {c:PC} {l:List (TCT cPt)} {i:Nat} {s s':PS} (I:PInv s) (h:U8 c l i s=some s'):PInv s':=by
 unfold U8 at h
 cases hs:A2l (Ar l ((i+1) % l.length) (Ap cPt)) (Ar l i (Ap cPt)) with
 | true=>rw [hs] at h;simp only [cond_true,Option.some.injEq] at h;subst h;exact I
 | false=>rw [hs,cond_false] at h;exact A87 I h
theorem Agq {c:PC} {l:List (TCT cPt)} (f:Nat):∀ (i:Nat) (s s':PS),PInv s→Mf c l f i s=some s'→PInv s':=by
 induction f with
 | zero=>intro i s s' I h;rw [Ab0,Option.some.injEq] at h;subst h;exact I
 | succ f ih =>
  intro i s s' I h
  rw [Wv] at h
  cases h1:U8 c l i s with
  | none=>rw [h1] at h;simp at h
  | some t=>rw [h1,Option.bind_some] at h;exact ih (i+1) t s' (Ab1 I h1) h
theorem Ale:PInv ps0:=⟨by decide,by decide,by decide,by decide⟩
theorem A2q (c:PC) (l:List (TCT cPt)) (h1:l.length≤1000) (h2:l.all fp=true) (h3:fpt c.ax c.ay=true) (h4:fpt c.bx c.bY=true):(U9 c l).sat (fun y=>y=(A2p c l,())):=by
 refine ⟨Bp _,rfl,?_⟩
 have hok:Aaz l (l.length:Int) 0 c ps0=true:=by
  unfold Aaz
  rw [h2,h3,h4,decide_eq_true (show (l.length:Int)=(l.length:Int)∧(0:Int)=0∧l.length≤1000∧0≤ps0.f0∧0≤ps0.f1∧0≤ps0.t0∧0≤ps0.t1 from ⟨rfl,rfl,h1,by decide,by decide,by decide,by decide⟩)]
  rfl
 rw [hok,cond_true]
 unfold A2p
 cases hp:Mf c l l.length 0 ps0 with
 | none=>exact rfl
 | some s =>
  have I:=Agq _ _ _ _ Ale hp
  show (Ago s).sat (fun y=>y=(Apd s,()))
  unfold Ago Apd
  cases s.an with
  | false=>exact rfl
  | true =>
   rw [show A2h s.f0 s.f1 s.t0 s.t1=true from decide_eq_true ⟨I.a,I.b,I.c,I.d⟩]
   cases decide (s.f0*s.t1<s.t0*s.f1) <;> cases s.o0 <;> cases s.o1 <;> exact rfl
theorem A2r:CtxOk A2n:=by
 refine Bt Ak puPa (A0 is_passes (A0 is_sides (A0 is_sides1 A2))) ?_
 intro p hp d hd g hg
 simp only [List.mem_cons,List.not_mem_nil,or_false] at hp
 rcases hp with rfl | rfl | rfl
 ·simp only [C4] at hg
  rw [show Nat.beq 187 57=false from rfl,Bool.false_and] at hg
  cases hg
 ·simp only [C4] at hg
  rw [show Nat.beq 187 116=false from rfl,Bool.false_and] at hg
  cases hg
 ·have hl:Ai (bodyOf Tryz.f187)=[A86]:=by kernel_rfl
  simp only at hd hg
  rw [hl,List.mem_singleton] at hd
  subst hd
  have hk:keyOf A86=1:=by kernel_rfl
  rw [hk] at hg
  simp [C4] at hg
  subst hg
  exact Aug
abbrev A2s:PureT:=B9 [cPt,cPt,.sl cPt] [.b] Agp (fun x=>(A2p ⟨x.1.1,x.1.2.1,x.2.1.1,x.2.1.2.1,false⟩ x.2.2.1,()))
theorem Agr:A5 Tryz.prog 57 A2s:=Bb A2r 7 (fun x=>U9 ⟨x.1.1,x.1.2.1,x.2.1.1,x.2.1.2.1,false⟩ x.2.2.1) (fun x=>A2o x) fun x hok _=>by
 have h:Agp x=true:=hok
 unfold Agp at h
 simp only [Bool.and_eq_true,decide_eq_true_eq] at h
 exact A2q _ _ h.1 h.2.1 h.2.2.1 h.2.2.2
theorem is_fitsL:FnIs Tryz.prog (45,Tryz.f45):=⟨Tryz.func45,by kernel_rfl,by kernel_rfl⟩
noncomputable def Ape:Ctx:=Fu Tryz.prog [] [(45,Tryz.f45)] [((45,2),Aq A2i A5r A5s)]
theorem Ab2:CtxOk Ape:=by
 refine Bt Ak puOk_nil (A0 is_fitsL A2) ?_
 intro p hp d hd g hg
 simp only [List.mem_singleton] at hp
 subst hp
 have hl:Ai (bodyOf Tryz.f45)=[Z4]:=by kernel_rfl
 simp only at hd hg
 rw [hl,List.mem_singleton] at hd
 subst hd
 have hk:keyOf Z4=2:=by kernel_rfl
 rw [hk] at hg
 simp [C4] at hg
 subst hg
 exact Apb
abbrev A5u:PureT:=B9 [.sl cPt] [.b] (fun _=>true) (fun x=>(x.1.all fp,()))
def A5v (l:List (TCT cPt)):Tree (TCTs [.b]):=bif decide ((l.length:Int)=(l.length:Int)∧(0:Int)=0) then bif l.all fp then .leaf (true,()) else .leaf (false,()) else .fail
theorem Ab3 (l:List (TCT cPt)):(A5v l).sat (fun y=>y=(l.all fp,())):=by
 unfold A5v
 rw [decide_eq_true (show (l.length:Int)=(l.length:Int)∧(0:Int)=0 from ⟨rfl,rfl⟩)]
 cases l.all fp <;> exact rfl
theorem Ags:A5 Tryz.prog 45 A5u:=Bb Ab2 3 (fun x=>A5v x.1) (fun x=>by kernel_rfl) fun _ _ _=>Ab3 _
theorem is_Ring:FnIs Tryz.prog (12,Tryz.f12):=⟨Tryz.func12,by kernel_rfl,by kernel_rfl⟩
abbrev Agt:=TCTs [.sl cPt,cI]
def RingR (x y r:Int):Agt:=bif Jt x y r != 0 then ([],2,()) else bif !(ringW x y r).all fp then ([],4,()) else (ringW x y r,0,())
abbrev Agu:PureT:=B9 [A1] [.sl cPt,cI] (fun _=>true) (fun x=>((RingR x.1.1.1 x.1.1.2.1 x.1.2.1).1,(RingR x.1.1.1 x.1.1.2.1 x.1.2.1).2.1,()))
def A5w (x y r:Int):Tree Agt:=bif Jt x y r != 0 then .leaf ([],2,()) else bif !(ringW x y r).all fp then .leaf ([],4,()) else .leaf (ringW x y r,0,())
theorem Ab4 (x y r:Int):(A5w x y r).sat (fun z=>z=RingR x y r):=by
 unfold A5w RingR
 cases Jt x y r != 0 <;> cases (ringW x y r).all fp <;> exact rfl
def plRi:List (Nat×PureT):=[(43,Ju),(44,Agi),(45,A5u)]
theorem puRi:Ca Tryz.prog plRi:=puOk_cons (show Plain Tryz.prog 43 from ⟨_,Tryz.func43,by kernel_rfl,by kernel_rfl⟩) Jv (puOk_cons is_ring.plain Ap8 (puOk_cons is_fitsL.plain Ags puOk_nil))
theorem q_Ring:A5 Tryz.prog 12 Agu:=Bb (Aj Ak puRi (A0 is_Ring A2)) 5 (fun x=>A5w x.1.1.1 x.1.1.2.1 x.1.2.1) (fun x=>by kernel_rfl) fun _ _ _=>Ab4 _ _ _
theorem ringW_len (x y r:Int):(ringW x y r).length=16:=rfl
theorem is_Passes:FnIs Tryz.prog (18,Tryz.f18):=⟨Tryz.func18,by kernel_rfl,by kernel_rfl⟩
abbrev Agv:=TCTs [.b,cI]
abbrev P3:=TCTs [cPt,cPt,A1]
def Asi (x:P3):PC:=⟨x.1.1,x.1.2.1,x.2.1.1,x.2.1.2.1,false⟩
def Qa (x:P3):Agt:=RingR x.2.2.1.1.1 x.2.2.1.1.2.1 x.2.2.1.2.1
def PassR (x:P3):Agv:=bif fp x.1&&fp x.2.1 then bif (Qa x).2.1 != 0 then (false,(Qa x).2.1,()) else (A2p (Asi x) (Qa x).1,0,()) else (false,2,())
def Apf (x:P3):Bool:=decide ((Qa x).1.length≤1000)&&((Qa x).1.all fp&&(fp x.1&&fp x.2.1))
def A4b (x:P3):Tree Agv:=bif (Qa x).2.1 != 0 then .leaf (false,(Qa x).2.1,()) else bif Apf x then .leaf (A2p (Asi x) (Qa x).1,0,()) else .fail
theorem Asj (x:P3):(Qa x).1.length≤1000∧(Qa x).1.all fp=true:=by
 unfold Qa RingR
 generalize x.2.2.1.1.1=a
 generalize x.2.2.1.1.2.1=b
 generalize x.2.2.1.2.1=r
 cases Jt a b r != 0 with
 | true=>exact ⟨Nat.zero_le _,rfl⟩
 | false =>
  cases h:(ringW a b r).all fp with
  | true=>exact ⟨by show (ringW a b r).length≤1000;rw [ringW_len];omega,h⟩
  | false=>exact ⟨Nat.zero_le _,rfl⟩
theorem Alf {x:P3} (ha:fp x.1=true) (hb:fp x.2.1=true):(A4b x).sat (fun y=>y=PassR x):=by
 unfold A4b PassR
 rw [ha,hb]
 have h:=Asj x
 rw [show Apf x=true by unfold Apf;rw [ha,hb,h.2,decide_eq_true h.1];rfl]
 cases (Qa x).2.1 != 0 <;> exact rfl
abbrev Agw:PureT:=B9 [cPt,cPt,A1] [.b,cI] (fun _=>true) (fun x=>((PassR x).1,(PassR x).2.1,()))
def plPq:List (Nat×PureT):=[(45,A5u),(12,Agu),(57,A2s)]
theorem puPq:Ca Tryz.prog plPq:=puOk_cons is_fitsL.plain Ags (puOk_cons is_Ring.plain q_Ring (puOk_cons is_passes.plain Agr puOk_nil))
def Ua (x:P3):Tree Agv:=bif !([x.1,x.2.1].all fp) then .leaf (false,2,()) else A4b x
theorem q_Passes:A5 Tryz.prog 18 Agw:=Bb (Aj Ak puPq (A0 is_Passes A2)) 5 Ua (fun x=>by kernel_rfl) fun x _ _=>by
 show (Ua x).sat (fun y=>y=PassR x)
 unfold Ua
 rw [List.all_cons,List.all_cons,List.all_nil,Bool.and_true]
 cases ha:fp x.1 with
 | false=>unfold PassR;rw [ha];exact rfl
 | true=>cases hb:fp x.2.1 with
  | false=>unfold PassR;rw [ha,hb];exact rfl
  | true=>exact Alf ha hb
end Rg
end V
end Go.Proofs.YtlangijnealfjaaGreat
namespace Go.Proofs.YtlangijnealfjaaGreat
open Go.RowKit
namespace V
open St
theorem is_sgcuts:FnIs Tryz.prog (42,Tryz.f42):=⟨Tryz.func42,by kernel_rfl,by kernel_rfl⟩
def CtR (ax ay bx bY px py r:Int):Bool×Int:=bif fpt ax ay&&(fpt bx bY&&Gr px py r) then (decide (LsV ax ay bx bY px py r<0),0) else (false,2)
abbrev TB2:=Tree (TCTs [.b,cI])
def A5x (ax ay bx bY px py r:Int):TB2:=A3m ax ay (.leaf (false,2,())) (A3m bx bY (.leaf (false,2,())) (bif Jt px py r != 0 then .leaf (false,2,()) else bif X6 ax ay bx bY px py r then .leaf (decide (LsV ax ay bx bY px py r<0),0,()) else .fail))
theorem Ab5 {ax ay bx bY px py r:Int} (a1:inK .i64 ax) (a2:inK .i64 ay) (a3:inK .i64 bx) (a4:inK .i64 bY):(A5x ax ay bx bY px py r).sat (fun y=>y=((CtR ax ay bx bY px py r).1,(CtR ax ay bx bY px py r).2,())):=by
 unfold A5x A3m
 refine Fa a1 a2 (fun k=>?_) (fun k1=>Fa a3 a4 (fun k=>?_) (fun k2=>?_))
 ·refine A6 ?_
  unfold CtR;rw [k];rfl
 ·refine A6 ?_
  unfold CtR;rw [k1,k];rfl
 ·unfold CtR Jt
  rw [k1,k2]
  cases h:Gr px py r with
  | false=>exact A6 rfl
  | true =>
   have:X6 ax ay bx bY px py r=true:=by
    unfold Gr at h
    rw [Bool.and_eq_true,Bool.not_eq_true'] at h
    unfold X6
    rw [k1,k2,h.1]
    have o:=A4j h.2
    have:B7 r 0 8388608=false:=by unfold B7;rw [decide_eq_false (by omega),decide_eq_false (by omega)];rfl
    rw [this];rfl
   rw [this]
   exact A6 rfl
def plCu:List (Nat×PureT):=(43,Ju)::(56,A3l)::[]
theorem puCu:Ca Tryz.prog plCu:=puOk_cons is_CheckDisc.plain Jv (puOk_cons is_lies.plain Abm puOk_nil)
abbrev Apg:PureT:=B9 [cPt,cPt,A1] [.b,cI] (fun _=>true) (fun x=>((CtR x.1.1 x.1.2.1 x.2.1.1 x.2.1.2.1 x.2.2.1.1.1 x.2.2.1.1.2.1 x.2.2.1.2.1).1,(CtR x.1.1 x.1.2.1 x.2.1.1 x.2.1.2.1 x.2.2.1.1.1 x.2.2.1.1.2.1 x.2.2.1.2.1).2,()))
theorem Aph:A5 Tryz.prog 17 Apg:=Bb (Aj Ak puCu (A0 is_Cuts (A0 is_fits A2))) 3 (fun x=>A5x x.1.1 x.1.2.1 x.2.1.1 x.2.1.2.1 x.2.2.1.1.1 x.2.2.1.1.2.1 x.2.2.1.2.1) (fun x=>by kernel_rfl) fun _ _ hw=>Ab5 hw.1.1 hw.1.2.1 hw.2.1.1 hw.2.1.2.1
abbrev Alg:TC:=.st [cI,cI,cPt,cPt]
def Api (s:TCT Alg) (d:TCT A1):Bool:=(CtR s.2.2.1.1 s.2.2.1.2.1 s.2.2.2.1.1 s.2.2.2.1.2.1 d.1.1 d.1.2.1 d.2.1).1
abbrev A2t:PureT:=B9 [Alg,A1] [.b] (fun _=>true) (fun x=>(Api x.1 x.2.1,()))
theorem Agx:A5 Tryz.prog 42 A2t:=Bb (Aj Ak (puOk_cons is_Cuts.plain Aph puOk_nil) (A0 is_sgcuts A2)) 4 (fun x=>.leaf (Api x.1 x.2.1,())) (fun x=>by kernel_rfl) fun _ _ _=>A6 rfl
def plSg:List (Nat×PureT):=(42,A2t)::[]
theorem puSg:Ca Tryz.prog plSg:=puOk_cons is_sgcuts.plain Agx puOk_nil
theorem is_ixSeg:FnIs Tryz.prog (58,Tryz.f58):=⟨Tryz.func58,by kernel_rfl,by kernel_rfl⟩
theorem is_cfSeg:FnIs Tryz.prog (41,Tryz.f41):=⟨Tryz.func41,by kernel_rfl,by kernel_rfl⟩
abbrev Hw:List SK:=[.d Alg]
def E6 (k:SKTs Hw) (x:TCT (A1)):Bool:=Api k.1 x
noncomputable def A2u:Code:=(Ai (bodyOf Tryz.f58)).getD 0 .skip
def J9:Lay:={ keys:=[0,1,7,8],ks:=[.d (.sl (A1)),.f 42 Hw [],.d cI,.d cI],bs:=[],n:=19,nx:=1000,marks:=[] }
def Agy:Lay:={ keys:=[4],ks:=[.d cI],bs:=[],n:=19,nx:=1000,marks:=[] }
def Agz:Lay:={ keys:=[],ks:=[],bs:=[],n:=19,nx:=1000,marks:=[] }
def Hn:XE→Lay
 | .ret=>Agy
 | _=>Agz
def A2v (k:SKTs Hw) (l:List (TCT (A1))) (n i:Int):J9.T:=((l,(k,()),n,i,()),())
def Qt (i:Int):A4 Hn:=⟨.ret,((i,()),())⟩
def Qu:A4 Hn:=⟨.exit 0,((),())⟩
def Ja (k:SKTs Hw) (l:List (TCT (A1))) (n:Int) (x:TCT (A1)) (i:Int):Tree (J9.T⊕A4 Hn):=bif E6 k x then .leaf (.inr (Qt i)) else .leaf (.inl (A2v k l n (W64 (i+1))))
def Ah0 (k:SKTs Hw) (l:List (TCT (A1))) (n i:Int):Tree (J9.T⊕A4 Hn) :=
 bif decide (i<n) then bif decide (0≤i∧i<(l.length:Int)) then Ja k l n (Ar l i.toNat (Ap (A1))) i else .fail else .leaf (.inr Qu)
def P4 (g:J9.T):Tree (A4 Hn) :=
 .br (G1 g.1.2.2.1 g.1.2.2.2.1 g.1.1) (.br (g.1.1.any (E6 g.1.2.1.1)) (.leaf (Qt (g.1.1.findIdx (E6 g.1.2.1.1)))) (.leaf Qu)) .fail
theorem Alh:As Tryz.prog 58 A2u (Aq J9 Hn P4):=by
 refine El (X:=ctx Tryz.prog plSg []) (Aj Ak puSg A2) 7 58 (fun _=>none) (fun _ _ f h=>by simp at h) J9 Hn (fun e=>by cases e <;> exact Nat.le_refl _) P4 (fun g=>Ah0 g.1.2.1.1 g.1.1 g.1.2.2.1 g.1.2.2.2.1) (fun g=>by kernel_rfl) ?_
 rintro ⟨⟨l,⟨k,⟨⟩⟩,n,i,⟨⟩⟩,⟨⟩⟩ R hw hf
 obtain ⟨hf,h0⟩:=hf
 by_cases hc:n=(l.length:Int)∧i=0
 ·obtain ⟨rfl,rfl⟩:=hc
  have hf:=hf (decide_eq_true ⟨rfl,rfl⟩)
  refine Abb l (Ap (A1)) (E9 hw.1.1) (fun n i _=>A2v k l n i) (fun x i (_:Unit)=>bif E6 k x then .inr (Qt i) else .inl ()) (fun _=>Qu) (fun _=>True) (fun x i _=>Ja k l l.length x i) (fun i _=>rfl) ?_ () trivial ?_
  ·intro i _ hi Q _ _ hw1 hQ
   show (Ja k l l.length l[i] i).sat Q
   unfold Ja
   rw [hw1]
   cases hp:E6 k l[i] with
   | true=>rw [hp] at hQ;exact hQ
   | false=>rw [hp] at hQ;exact hQ trivial
  ·rw [Jb (E6 k) (fun i=>Qt i) Qu l 0,Nat.zero_add]
   cases ha:l.any (E6 k) with
   | true=>exact hf.1 ha
   | false=>exact hf.2 ha
 ·exact (h0 (decide_eq_false hc)).elim
abbrev A88:PureT:=G8 [.d (.sl (A1)),.f 42 Hw []] [cI] (fun _=>true) (fun x=>(bif x.1.any (E6 x.2.1.1) then (x.1.findIdx (E6 x.2.1.1):Int) else -1,()))
noncomputable def Ali:Ctx:=Fu Tryz.prog plSg [(58,Tryz.f58)] [((58,keyOf A2u),Aq J9 Hn P4)]
theorem A5y:CtxOk Ali:=Bt Ak puSg (A0 is_ixSeg A2) (Bs rfl (by kernel_rfl) Alh)
def A89 (k:SKTs Hw) (l:List (TCT (A1))):Tree (Int×Unit):=bif G1 (l.length:Int) 0 l then bif l.any (E6 k) then .leaf ((l.findIdx (E6 k):Int),()) else .leaf (-1,()) else .fail
theorem A5z (k:SKTs Hw) (l:List (TCT (A1))):(A89 k l).sat (fun y=>y=(bif l.any (E6 k) then (l.findIdx (E6 k):Int) else -1,())):=by
 refine I7 (decide_eq_true ⟨rfl,rfl⟩) ?_
 cases l.any (E6 k) <;> exact rfl
theorem A8a:A5 Tryz.prog 58 A88:=Ji A5y 8 (fun x=>A89 x.2.1.1 x.1) (fun x=>by kernel_rfl) fun x _ _=>A5z _ _
abbrev A8b:PureT:=G8 [.d (.sl (A1)),.f 42 Hw []] [.b] (fun _=>true) (fun x=>(x.1.any (E6 x.2.1.1),()))
theorem A60 (k:SKTs Hw) (l:List (TCT (A1))):(Tree.leaf (decide ((bif l.any (E6 k) then (l.findIdx (E6 k):Int) else -1)≥0),()):Tree (Bool×Unit)).sat (fun y=>y=(l.any (E6 k),())):=by
 rw [Lc];exact rfl
theorem Alj:A5 Tryz.prog 41 A8b:=Ji (Aj Ak (puOk_cons is_ixSeg.plain A8a puOk_nil) (A0 is_cfSeg A2)) 8 (fun x=>.leaf (decide ((bif x.1.any (E6 x.2.1.1) then (x.1.findIdx (E6 x.2.1.1):Int) else -1)≥0),())) (fun x=>by kernel_rfl) fun x _ _=>A60 _ _
end V
end Go.Proofs.YtlangijnealfjaaGreat
