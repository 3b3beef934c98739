import Derived.Test.YtcfanlgpkefogaaGreatKr
import Derived.Test.YtcfanlgpkefogaaGreatKf
namespace Go.Proofs.YtcfanlgpkefogaaGreat
open Go.RowKit
namespace V
namespace Tp
open St
def sg (b:Bool) (k:Int):Int:=bif b then -k else k
def axM (al:Bool) (c u k r:Int):TCT Bg:=bif al then ((u,c,()),(k,0,()),(r,0,()),()) else ((c,u,()),(0,k,()),(0,r,()),())
def ptA (al:Bool) (c u:Int):TCT cPt:=bif al then (u,c,()) else (c,u,())
def A2i (al:Bool):TCT Bt:=(50000,40000,6000,500,al,())
def G4 (al:Bool):TCT A9:=(nameG,100000,200000,5000,[A2i al,Aos],Bdi,1,1,[(8000,0,0,())],())
def cA (al:Bool):Int:=bif al then 40000 else 50000
def hA (al:Bool):Int:=bif al then 50000 else 40000
abbrev Hp (R:Int):TCT A2:=(450,R,())
theorem Mn:∀ al:Bool,Co (G4 al)=0
 | true=>by kernel_rfl
 | false=>by kernel_rfl
theorem ax_mov {al:Bool} {c u k r:Int}:Ql (axM al c u k r)=!(k==0):=by
 unfold Ql axM
 cases al with
 | true=>show (!(k==0&&((0:Int)==0&&true)))=_;rw [show ((0:Int)==0)=true from rfl,Bool.and_true,Bool.and_true]
 | false=>show (!((0:Int)==0&&(k==0&&true)))=_;rw [show ((0:Int)==0)=true from rfl,Bool.true_and,Bool.and_true]
theorem A67 {al:Bool} {c u k r R:Int} (hR:1000≤R∧R≤4096) (hc:0≤c∧c≤100000) (hu:0≤u∧u≤100000) (hk : -724280≤k∧k≤724280) (hr : -14400≤r∧r≤14399):(bm (Hp R) (axM al c u k r)).Fit:=by
 cases al with
 | true=>exact ⟨by show (400:Int)≤450;decide,by show (450:Int)≤500;decide,hR.1,hR.2,decide_eq_true (by show -4194304≤u∧u≤4194304 ∧ -4194304≤c∧c≤4194304;omega),by show -4194304≤u;omega,by show u≤4194304;omega,by show -4194304≤c;omega,by show c≤4194304;omega,by show -16777216≤k;omega,by show k≤16777216;omega,by show (-16777216:Int)≤0;decide,by show (0:Int)≤16777216;decide,by show -(32*450)≤r;omega,by show r≤32*450-1;omega,by show (-(32*450):Int)≤0;decide,by show (0:Int)≤32*450-1;decide⟩
 | false=>exact ⟨by show (400:Int)≤450;decide,by show (450:Int)≤500;decide,hR.1,hR.2,decide_eq_true (by show -4194304≤c∧c≤4194304 ∧ -4194304≤u∧u≤4194304;omega),by show -4194304≤c;omega,by show c≤4194304;omega,by show -4194304≤u;omega,by show u≤4194304;omega,by show (-16777216:Int)≤0;decide,by show (0:Int)≤16777216;decide,by show -16777216≤k;omega,by show k≤16777216;omega,by show (-(32*450):Int)≤0;decide,by show (0:Int)≤32*450-1;decide,by show -(32*450)≤r;omega,by show r≤32*450-1;omega⟩
theorem dw0:DW (0+0) (64*450)=0∧DR (0+0) (64*450)=0:=⟨by decide,by decide⟩
theorem B32 {al:Bool} {c u k r R:Int} (hR:1000≤R∧R≤4096) (hc:0≤c∧c≤100000) (hu:0≤u∧u≤100000) (hk : -724280≤k∧k≤724280) (hr : -14400≤r∧r≤14399):Mh (Hp R) (axM al c u k r)=(axM al c (u+DW (k+r) (64*450)) k (DR (k+r) (64*450)),0,()):=by
 have f:=A6m (A67 (al:=al) hR hc hu hk hr)
 have d:=B6n (n:=k+r) (d:=64*450) (l:=30) (by decide) (by omega) (by omega)
 have hp:fpt (sX (bm (Hp R) (axM al c u k r))) (sY (bm (Hp R) (axM al c u k r)))=true:=by
  unfold fpt
  refine decide_eq_true ?_
  cases al with
  | true =>
   show -4194304≤u+DW (k+r) (64*450)∧u+DW (k+r) (64*450)≤4194304 ∧ -4194304≤c+DW (0+0) (64*450)∧c+DW (0+0) (64*450)≤4194304
   rw [dw0.1];omega
  | false =>
   show -4194304≤c+DW (0+0) (64*450)∧c+DW (0+0) (64*450)≤4194304 ∧ -4194304≤u+DW (k+r) (64*450)∧u+DW (k+r) (64*450)≤4194304
   rw [dw0.1];omega
 show L6 (bm (Hp R) (axM al c u k r))=_
 unfold L6
 rw [f,hp]
 cases al with
 | true =>
  show (((u+DW (k+r) (64*450),c+DW (0+0) (64*450),()),(k,0,()),(DR (k+r) (64*450),DR (0+0) (64*450),()),()),0,())=(((u+DW (k+r) (64*450),c,()),(k,0,()),(DR (k+r) (64*450),0,()),()),0,())
  rw [dw0.1,dw0.2,Int.add_zero]
 | false =>
  show (((c+DW (0+0) (64*450),u+DW (k+r) (64*450),()),(0,k,()),(DR (0+0) (64*450),DR (k+r) (64*450),()),()),0,())=(((c,u+DW (k+r) (64*450),()),(0,k,()),(0,DR (k+r) (64*450),()),()),0,())
  rw [dw0.1,dw0.2,Int.add_zero]
theorem Mo {S B:Type} {f:Nat→S→S⊕B} {i:Nat} {s s':S} (h:f i s=.inl s'):B8 f i 1 s=.inl s':=by
 unfold B8
 rw [h];rfl
theorem Bbs {l:TCT A9} {b:TCT A2} {m m':TCT Bg} {t st:Int} (h1:Ql m=true→Mh b m=(m',0,())) (h0:Ql m=false→m'=m) (on:onB l m'.1=true):mvF [b] l t st 1 ([m],[false],[])=.inl ([m'],[false],[]):=by
 have e1:St.stE [b] [false] 0 [m]=.inl [m']:=by
  unfold St.stE
  show (bif !(!false&&Ql m) then _ else _:B5⊕Int)=_
  cases hm:Ql m with
  | false=>rw [h0 hm];rfl
  | true =>
   show (bif (Mh b m).2.1 != 0 then .inr (Mh b m).2.1 else .inl [(Mh b m).1]:B5⊕Int)=_
   rw [h1 hm];rfl
 have e2:lvE l t st 0 ([m'],[false],[])=.inl ([m'],[false],[]):=by
  unfold lvE
  show (bif !false then bif !onB l m'.1 then _ else _ else _:S2⊕Int)=_
  rw [on];rfl
 unfold mvF
 show (match B8 (St.stE [b] [false]) 0 1 [m] with
  | .inl ms=>B8 (lvE l t st) 0 1 (ms,[false],[])
  | .inr e=>.inr e)=_
 rw [Mo e1]
 exact Mo e2
theorem Av7 {b:TCT A2} {c:TCT D3} {m:TCT Bg} {t st w:Int} (hb:(bm b m).ok=true) (hc:Hl c.1 c.2.1=true):seF [b] c t st w 0 1 ([m],[false],[])=.inl ([m],[]):=by
 have e1:gaV [b] w 0 1 [m] [false]=([0],[b],[m]):=by
  show (bif !false&&!Ff w 0 ((0:Nat):Int) then ga1 ((0:Nat):Int) b m ([],[],[]) else ([],[],[]):GA)=_
  rw [Aa7];rfl
 have e2:Cf [b] [m] c.1 c.2.1=([m],[],0,()):=by
  unfold Cf
  have k:Mq [b] [m]=0:=by
   show okE ((bm b m).ok&&true)=0
   rw [hb];rfl
  rw [k,hc];rfl
 have e3:seG [b] w 0 1 ([m],[false],[])=([0],[b],[m]):=e1
 have e4:seS [b] c w 0 1 ([m],[false],[])=([m],[],0,()):=by
  unfold seS
  rw [e3];exact e2
 unfold seF
 rw [e3,e4]
 rfl
theorem Bbt {b:TCT A2} {c:TCT D3} {ps:Dss} {m:TCT Bg} {t st w fl:Int} (h:∀ i:Nat,i<ps.length→(bmV b m (E6 ps i) c).2.1≠0∧(bmV b m (E6 ps i) c).2.1≠4):buF [b] c ps t st w fl 1 ([m],[false],[])=.inl ([m],[]):=by
 have key:∀ (n i:Nat),i+n=ps.length→A2d (B8 (bpE b c ps [false] w fl t st 0) i n ([m],[]))=.inl ([m],[]):=by
  intro n
  induction n with
  | zero=>intro i _;rfl
  | succ n ih =>
   intro i hi
   have g:=h i (by omega)
   unfold B8
   have e:bpE b c ps [false] w fl t st 0 i ([m],[])=.inr (.inl ([m],[]))∨bpE b c ps [false] w fl t st 0 i ([m],[])=.inl ([m],[]):=by
    unfold bpE
    cases !Cp ([m],([]:Kns)).1 [false] 0||Ff w fl ((0:Nat):Int) with
    | true=>exact .inl rfl
    | false =>
     refine .inr ?_
     show (bif (bmV b m (E6 ps i) c).2.1==0 then _ else bif (bmV b m (E6 ps i) c).2.1==4 then _ else _:MK⊕(MK⊕Int))=_
     rw [beq_eq_false_iff_ne.2 g.1,beq_eq_false_iff_ne.2 g.2];rfl
   rcases e with e | e
   ·rw [e];rfl
   ·rw [e];exact ih (i+1) (by omega)
 unfold buF
 exact Mo (key ps.length 0 (by omega))
end Tp
end V
end Go.Proofs.YtcfanlgpkefogaaGreat
namespace Go.Proofs.YtcfanlgpkefogaaGreat
open Go.RowKit
namespace V
namespace Tp
open St
theorem B7b {b:Bool} {k:Int}:sg b k*sg b k=k*k:=by
 unfold sg
 cases b with
 | true=>show -k * -k=k*k;grind
 | false=>rfl
theorem Aa8 {k:Int} (h:0≤k) {n:Int} (e:n=k*k):rt (64*n)=8*k:=by
 subst e
 have a:(8*k)*(8*k)=64*(k*k):=by grind
 have b:(8*k+1)*(8*k+1)=64*(k*k)+16*k+1:=by grind
 exact Vf _ _ (by omega) (by omega) (by omega)
theorem Wd {b:Bool} {k A:Int} (h0:0≤k) (h:k≤A) : -A≤sg b k∧sg b k≤A:=by
 unfold sg
 cases b with
 | true=>show -A ≤ -k ∧ -k≤A;omega
 | false=>show -A≤k∧k≤A;omega
theorem Bbu {b:Bool} {k:Int}:sg b k*(8*k-8*8000)=(8*k)*sg b (k-8000):=by
 unfold sg
 cases b with
 | true=>show -k*(8*k-8*8000)=8*k * -(k-8000);grind
 | false=>show k*(8*k-8*8000)=8*k*(k-8000);grind
theorem Xs {b:Bool}:sg b 0=0:=by cases b <;> rfl
theorem Av8 {x:Int} (h : -16777216≤x∧x≤16777216):Bp x 0=true∧Bp 0 x=true:=by
 have a:Bu x (-16777216) 16777216=false:=by
  unfold Bu
  rw [decide_eq_false (show ¬ x < -16777216 by omega),decide_eq_false (show ¬ 16777216<x by omega)];rfl
 unfold Bp
 rw [a]
 exact ⟨rfl,rfl⟩
theorem Bbv {b:Bool} {k:Int} (h0:0≤k) (h1:k≤724280):Je (sg b k) 0 8000=((sg b (max 0 (k-8000)),0,()),0,())∧Je 0 (sg b k) 8000=((0,sg b (max 0 (k-8000)),()),0,()):=by
 have hb:=Wd (b:=b) h0 h1
 have hs:=Av8 (x:=sg b k) (by omega)
 have n1:slN (sg b k) 0=8*k:=Aa8 h0 (by rw [B7b];omega)
 have n2:slN 0 (sg b k)=8*k:=Aa8 h0 (by rw [B7b];omega)
 unfold Je
 rw [hs.1,hs.2,n1,n2]
 by_cases h2:8*k≤8*8000
 ·rw [decide_eq_true h2,show max 0 (k-8000)=0 by omega,Xs]
  exact ⟨rfl,rfl⟩
 ·rw [decide_eq_false h2,show max 0 (k-8000)=k-8000 by omega,Bbu,Int.mul_tdiv_cancel_left _ (show 8*k≠0 by omega),Int.zero_mul,Int.zero_tdiv]
  exact ⟨rfl,rfl⟩
theorem A3t {al:Bool} {c u:Int} (hc:0≤c∧c≤100000) (hu:0≤u∧u≤100000):onB (G4 al) (ptA al c u)=true∧fpt (ptA al c u).1 (ptA al c u).2.1=true:=by
 unfold onB fpt
 cases al with
 | true=>exact ⟨by show (St.inR u 0 100000&&St.inR c 0 200000)=true;rw [G1.2 ⟨hu.1,hu.2⟩,G1.2 ⟨hc.1,by omega⟩];rfl,decide_eq_true (by show -4194304≤u∧u≤4194304 ∧ -4194304≤c∧c≤4194304;omega)⟩
 | false=>exact ⟨by show (St.inR c 0 100000&&St.inR u 0 200000)=true;rw [G1.2 ⟨hc.1,hc.2⟩,G1.2 ⟨hu.1,by omega⟩];rfl,decide_eq_true (by show -4194304≤c∧c≤4194304 ∧ -4194304≤u∧u≤4194304;omega)⟩
theorem B7c {a n:Int} (h:0≤a∧a≤4194304) (hn:0<n):min (W64 (Int.tdiv (W64 (a*1)) n)) (W64 (1-1))=0:=by
 rw [show W64 (1-1)=0 by decide,Int.mul_one,Bi (n:=a) (by omega) (by omega)]
 have b:0≤a.tdiv n:=Int.tdiv_nonneg h.1 (by omega)
 have c:a.tdiv n≤a:=by rw [Int.tdiv_eq_ediv_of_nonneg h.1];exact Int.ediv_le_self n h.1
 rw [Bi (n:=a.tdiv n) (by omega) (by omega)]
 omega
theorem Aa9 {al:Bool} {c u:Int} (hc:0≤c∧c≤100000) (hu:0≤u∧u≤100000):Fy (G4 al) (ptA al c u)=0∧Ju (G4 al) (ptA al c u)=(8000,0,0,()):=by
 obtain ⟨h1,h2⟩:=A3t (al:=al) hc hu
 have e:Fy (G4 al) (ptA al c u)=0:=by
  unfold Fy A26
  rw [Mn,h2,h1];rfl
 have i:T8 (G4 al) (ptA al c u)=0:=by
  have hx:0≤(ptA al c u).1∧(ptA al c u).1≤4194304:=by
   cases al with
   | true=>show 0≤u∧u≤4194304;omega
   | false=>show 0≤c∧c≤4194304;omega
  have hy:0≤(ptA al c u).2.1∧(ptA al c u).2.1≤4194304:=by
   cases al with
   | true=>show 0≤c∧c≤4194304;omega
   | false=>show 0≤u∧u≤4194304;omega
  show W64 (W64 (min (W64 (Int.tdiv (W64 ((ptA al c u).2.1*1)) 200000)) (W64 (1-1))*1)+min (W64 (Int.tdiv (W64 ((ptA al c u).1*1)) 100000)) (W64 (1-1)))=0
  rw [B7c hx (by decide),B7c hy (by decide)]
  decide
 refine ⟨e,?_⟩
 unfold Ju
 rw [e,i]
 rfl
theorem Aja {al:Bool} {c u k r:Int}:(axM al c u k r).1=ptA al c u:=by cases al <;> rfl
theorem B33 {al b:Bool} {c u k r:Int} (hc:0≤c∧c≤100000) (hu:0≤u∧u≤100000) (h0:0≤k) (h1:k≤724280):A2c (G4 al) (axM al c u (sg b k) r)=axM al c u (sg b (max 0 (k-8000))) r∧(Ld (G4 al) (axM al c u (sg b k) r)).2.1=0:=by
 obtain ⟨s1,s2⟩:=Bbv (b:=b) h0 h1
 have hb:=Wd (b:=b) h0 h1
 have v:Ld (G4 al) (axM al c u (sg b k) r)=((((axM al c u (sg b (max 0 (k-8000))) r)).2.1.1,((axM al c u (sg b (max 0 (k-8000))) r)).2.1.2.1,()),0,()):=by
  unfold Ld
  rw [Aja,(Aa9 hc hu).2]
  cases al with
  | true =>
   show Je (W64 (sg b k+0)) (W64 (0+0)) 8000=_
   rw [Int.add_zero,Bi (n:=sg b k) (by omega) (by omega),show W64 (0+0)=0 by decide,s1];rfl
  | false =>
   show Je (W64 (0+0)) (W64 (sg b k+0)) 8000=_
   rw [Int.add_zero (sg b k),Bi (n:=sg b k) (by omega) (by omega),show W64 (0+0)=0 by decide,s2];rfl
 refine ⟨?_,by rw [v]⟩
 unfold A2c
 rw [v]
 cases al <;> rfl
theorem Ajb {a:Bm} {qx qy q re dr:Int} (h:(a.r+q)*(a.r+q)<sq a.px a.py qx qy∨dN a qx qy≤0):(Wm a qx qy q re dr).2.1≠0∧(Wm a qx qy q re dr).2.1≠4:=by
 unfold Wm
 cases !(a.ok&&(Kz qx qy q&&Hl re dr)) with
 | true=>exact (by decide:(2:Int)≠0∧(2:Int)≠4)
 | false =>
  cases hc:Gt a.px a.py qx qy (a.r+q) with
  | false=>exact (by decide:(5:Int)≠0∧(5:Int)≠4)
  | true =>
   unfold Gt at hc
   have g:=(of_decide_eq_true hc).1
   rcases h with h | h
   ·omega
   ·rw [decide_eq_true h]
    exact (by decide:(10:Int)≠0∧(10:Int)≠4)
theorem Bbw {e S:Int} (h0:0≤S) (h:S<e∨e < -S):S*S<e*e:=by
 rcases h with h | h
 ·have:=Int.mul_le_mul (show S+1≤e by omega) (show S+1≤e by omega) (by omega) (by omega)
  have:(S+1)*(S+1)=S*S+2*S+1:=by grind
  omega
 ·have:=Int.mul_le_mul (show S+1 ≤ -e by omega) (show S+1 ≤ -e by omega) (by omega) (by omega)
  have:(S+1)*(S+1)=S*S+2*S+1:=by grind
  have : -e * -e=e*e:=by grind
  omega
theorem far_x {px py qx qy S:Int} (h0:0≤S) (h:S<qx-px∨qx-px < -S):S*S<sq px py qx qy:=by
 have a:=Bbw h0 h
 have b:=I4 (qy-py)
 unfold sq;omega
theorem B7d {px py qx qy S:Int} (h0:0≤S) (h:S<qy-py∨qy-py < -S):S*S<sq px py qx qy:=by
 have a:=Bbw h0 h
 have b:=I4 (qx-px)
 unfold sq;omega
theorem Xt {S e w:Int} (h0:0≤S) (h1:S≤3500) (hw:w=3500∨w = -3500) (he:e≠0):S*S<w*w+e*e∧S*S<e*e+w*w:=by
 have a:S*S≤3500*3500:=Int.mul_le_mul h1 h1 h0 (by decide)
 have b:w*w=3500*3500:=by rcases hw with rfl | rfl <;> rfl
 have c:=Bbw (e:=e) (S:=0) (by decide) (by omega)
 omega
theorem Aev:∀ al:Bool,Fe (G4 al)=bif al then [Gy 50000 36500 500,Gy 50000 43500 500,Gy 30000 96400 500,Gy 30000 103600 500,Gy 50000 100000 1200] else [Gy 46500 40000 500,Gy 53500 40000 500,Gy 30000 96400 500,Gy 30000 103600 500,Gy 50000 100000 1200]
 | true=>by unfold Fe;rw [Mn];kernel_rfl
 | false=>by unfold Fe;rw [Mn];kernel_rfl
theorem Zq {al:Bool} {u k r R:Int} {x y q:Int} (hR:1000≤R∧R≤3000) (hu:14000≤u∧u≤76000∧(al=true∨u≤66000)) (hy:96400≤y) (hq:0≤q∧q≤1200) {c:TCT D3}:(bmV (Hp R) (axM al (cA al) u k r) (Gy x y q) c).2.1≠0∧(bmV (Hp R) (axM al (cA al) u k r) (Gy x y q) c).2.1≠4:=by
 refine Ajb (.inl ?_)
 cases al with
 | true =>
  show (R+q)*(R+q)<sq u 40000 x y
  exact B7d (by omega) (by omega)
 | false =>
  show (R+q)*(R+q)<sq 50000 u x y
  have:=hu.2.2
  exact B7d (by omega) (by rcases this with h | h;cases h;omega)
theorem A3u {al:Bool} {u k r R w:Int} (hR:1000≤R∧R≤3000) (hw:w=3500∨w = -3500) {c:TCT D3}:(bmV (Hp R) (axM al (cA al) u k r) (bif al then Gy 50000 (40000+w) 500 else Gy (50000+w) 40000 500) c).2.1≠0∧(bmV (Hp R) (axM al (cA al) u k r) (bif al then Gy 50000 (40000+w) 500 else Gy (50000+w) 40000 500) c).2.1≠4:=by
 refine Ajb ?_
 cases al with
 | true =>
  show (R+500)*(R+500)<(50000-u)*(50000-u)+(40000+w-40000)*(40000+w-40000)∨k*(50000-u)+0*(40000+w-40000)≤0
  rcases Int.lt_trichotomy u 50000 with h | h | h
  ·rw [show 40000+w-40000=w by omega];exact .inl (Xt (by omega) (by omega) hw (by omega)).2
  ·subst h;exact .inr (by rw [Int.zero_mul,show (50000:Int)-50000=0 by decide,Int.mul_zero];decide)
  ·rw [show 40000+w-40000=w by omega];exact .inl (Xt (by omega) (by omega) hw (by omega)).2
 | false =>
  show (R+500)*(R+500)<(50000+w-50000)*(50000+w-50000)+(40000-u)*(40000-u)∨0*(50000+w-50000)+k*(40000-u)≤0
  rcases Int.lt_trichotomy u 40000 with h | h | h
  ·rw [show 50000+w-50000=w by omega];exact .inl (Xt (by omega) (by omega) hw (by omega)).1
  ·subst h;exact .inr (by rw [Int.zero_mul,show (40000:Int)-40000=0 by decide,Int.mul_zero];decide)
  ·rw [show 50000+w-50000=w by omega];exact .inl (Xt (by omega) (by omega) hw (by omega)).1
theorem B34 {al:Bool} {u k r R:Int} (hR:1000≤R∧R≤3000) (hu:14000≤u∧u≤76000∧(al=true∨u≤66000)) {c:TCT D3}:∀ i:Nat,i<(Fe (G4 al)).length→(bmV (Hp R) (axM al (cA al) u k r) (E6 (Fe (G4 al)) i) c).2.1≠0∧(bmV (Hp R) (axM al (cA al) u k r) (E6 (Fe (G4 al)) i) c).2.1≠4:=by
 have w1:=A3u (al:=al) (u:=u) (k:=k) (r:=r) (w := -3500) (c:=c) hR (.inr rfl)
 have w2:=A3u (al:=al) (u:=u) (k:=k) (r:=r) (w:=3500) (c:=c) hR (.inl rfl)
 have f1:=Zq (al:=al) (k:=k) (r:=r) (x:=30000) (y:=96400) (q:=500) (c:=c) hR hu (by decide) (by decide)
 have f2:=Zq (al:=al) (k:=k) (r:=r) (x:=30000) (y:=103600) (q:=500) (c:=c) hR hu (by decide) (by decide)
 have f3:=Zq (al:=al) (k:=k) (r:=r) (x:=50000) (y:=100000) (q:=1200) (c:=c) hR hu (by decide) (by decide)
 rw [Aev]
 intro i hi
 cases al with
 | true =>
  have hi:i<5:=hi
  match i,hi with
  | 0,_=>exact w1
  | 1,_=>exact w2
  | 2,_=>exact f1
  | 3,_=>exact f2
  | 4,_=>exact f3
 | false =>
  have hi:i<5:=hi
  match i,hi with
  | 0,_=>exact w1
  | 1,_=>exact w2
  | 2,_=>exact f1
  | 3,_=>exact f2
  | 4,_=>exact f3
def ktA (al:Bool) (R tk:Int):CT:=⟨[Hp R],G4 al,(600,0,()),Fe (G4 al),0,0,tk⟩
structure LnP (b:Bool) (u0 Z u r:Int):Prop where
 e:28800*(u-u0)+r=sg b Z
 r1 : -14400≤r
 r2:r≤14399
theorem Zr {b:Bool} {u0 Z u r h:Int} (q:LnP b u0 Z u r) (z0:0≤Z) (z1:Z≤524581518) (hu : -7500≤u0-h∧u0-h≤7500) : -25716≤u-h∧u-h≤25716:=by
 have a:=Wd (b:=b) z0 z1
 obtain ⟨e,r1,r2⟩:=q
 omega
theorem Aaa {b:Bool} {u0 Z u r k:Int} (q:LnP b u0 Z u r):LnP b u0 (Z+k) (u+DW (sg b k+r) (64*450)) (DR (sg b k+r) (64*450)):=by
 obtain ⟨d1,d2,d3⟩:=B3b (sg b k+r) (64*450) (by decide)
 obtain ⟨e,r1,r2⟩:=q
 have s:sg b (Z+k)=sg b Z+sg b k:=by
  unfold sg
  cases b with
  | true=>show -(Z+k) = -Z + -k;omega
  | false=>rfl
 exact ⟨by rw [s];omega,by omega,by omega⟩
theorem B35 {r:Int} (r1 : -14400≤r) (r2:r≤14399):DW (0+r) (64*450)=0∧DR (0+r) (64*450)=r:=Ip _ _ _ _ (by decide) (by omega) (by omega) (by omega)
theorem Zs {al:Bool} {u:Int} (h : -25716≤u-hA al∧u-hA al≤25716):14000≤u∧u≤76000∧(al=true∨u≤66000):=by
 cases al with
 | true=>have h : -25716≤u-50000∧u-50000≤25716:=h;exact ⟨by omega,by omega,.inl rfl⟩
 | false=>have h : -25716≤u-40000∧u-40000≤25716:=h;exact ⟨by omega,by omega,.inr (by omega)⟩
theorem P0 {al:Bool}:0≤cA al∧cA al≤100000:=by cases al <;> exact ⟨by decide,by decide⟩
theorem Bbx {al b:Bool} {R tk u0 Z u r k:Int} {i:Nat} (hR:1000≤R∧R≤3000) (q:LnP b u0 Z u r) (z0:0≤Z) (k0:0≤k) (k1:k≤724280) (z1:Z+k≤524581518) (hu : -7500≤u0-hA al∧u0-hA al≤7500) :
  tkE (ktA al R tk) i ([axM al (cA al) u (sg b k) r],[false],[])=.inl ([axM al (cA al) (u+DW (sg b k+r) (64*450)) (sg b k) (DR (sg b k+r) (64*450))],[false],[]):=by
 have hb:=Wd (b:=b) k0 k1
 have q2:=Aaa (k:=k) q
 have p1:=Zs (Zr q z0 (by omega) hu)
 have p2:=Zs (Zr q2 (by omega) z1 hu)
 have R4:1000≤R∧R≤4096:=by omega
 have st:=B32 (al:=al) (c:=cA al) (u:=u) R4 P0 (by omega) hb ⟨q.r1,q.r2⟩
 have f2:=A6m (A67 (al:=al) (c:=cA al) (k:=sg b k) R4 P0 (show 0≤u+DW (sg b k+r) (64*450)∧u+DW (sg b k+r) (64*450)≤100000 by omega) hb ⟨q2.r1,q2.r2⟩)
 have mv:=Bbs (l:=G4 al) (t:=tk) (st:=((i+1:Nat):Int)) (b:=Hp R) (m:=axM al (cA al) u (sg b k) r) (m':=axM al (cA al) (u+DW (sg b k+r) (64*450)) (sg b k) (DR (sg b k+r) (64*450))) (fun _=>st) (fun h=>by
  rw [ax_mov] at h
  have e:sg b k=0:=by simpa using h
  obtain ⟨d1,d2⟩:=B35 q.r1 q.r2
  rw [e,d1,d2,Int.add_zero]) (by rw [Aja];exact (A3t P0 (by omega)).1)
 unfold tkE
 show (match mvF [Hp R] (G4 al) tk ((i+1:Nat):Int) 1 ([axM al (cA al) u (sg b k) r],[false],[]) with
  | .inr e=>.inr e
  | .inl s1=>match seF [Hp R] (600,0,()) tk ((i+1:Nat):Int) 0 0 1 s1 with
   | .inr e=>.inr e
   | .inl s2=>match buF [Hp R] (600,0,()) (Fe (G4 al)) tk ((i+1:Nat):Int) 0 0 1 (s2.1,s1.2.1,s2.2) with
    | .inr e=>.inr e
    | .inl s3=>.inl (s3.1,s1.2.1,s3.2):S2⊕Int)=_
 rw [mv]
 simp only
 rw [Av7 f2 (by decide)]
 simp only
 rw [Bbt (B34 hR p2)]
theorem Aab {al b:Bool} {R tk u0 k:Int} (hR:1000≤R∧R≤3000) (k0:0≤k) (k1:k≤724280) (hu : -7500≤u0-hA al∧u0-hA al≤7500):∀ (n i:Nat) (Z u r:Int),LnP b u0 Z u r→0≤Z→Z+(n:Int)*k≤524581518 →
  ∃ u' r',B8 (tkE (ktA al R tk)) i n ([axM al (cA al) u (sg b k) r],[false],[])=.inl ([axM al (cA al) u' (sg b k) r'],[false],[])∧LnP b u0 (Z+(n:Int)*k) u' r'
 | 0,i,Z,u,r,q,z0,z1=>⟨u,r,rfl,by
  have e:Z+((0:Nat):Int)*k=Z:=by rw [show ((0:Nat):Int)=0 from rfl,Int.zero_mul,Int.add_zero]
  rw [e];exact q⟩
 | n+1,i,Z,u,r,q,z0,z1=>by
  have e:Z+((n+1:Nat):Int)*k=Z+k+(n:Int)*k:=by rw [show ((n+1:Nat):Int)=(n:Int)+1 from rfl,Int.add_mul,Int.one_mul];omega
  have nk:0≤(n:Int)*k:=Int.mul_nonneg (by omega) k0
  rw [e] at z1
  have o:=Bbx (al:=al) (tk:=tk) (i:=i) hR q z0 k0 k1 (by omega) hu
  obtain ⟨u',r',h1,h2⟩:=Aab (al:=al) (tk:=tk) hR k0 k1 hu n (i+1) (Z+k) _ _ (Aaa q) (by omega) z1
  refine ⟨u',r',?_,by rw [e];exact h2⟩
  unfold B8
  rw [o]
  exact h1
structure LnI (b:Bool) (u0 M0 Z k u r:Int):Prop where
 p:LnP b u0 Z u r
 k0:0≤k
 k1:k≤724280
 z0:0≤Z
 en:1000*Z+k*k≤M0*M0
theorem Av9 {M0:Int} (h0:0≤M0) (h1:M0≤724280):M0*M0≤524581518400:=Int.mul_le_mul h1 h1 h0 (by decide)
theorem Bh7 {Z k E:Int} (k0:0≤k) (en:1000*Z+k*k≤E):1000*(Z+16*max 0 (k-8000))+max 0 (k-8000)*max 0 (k-8000)≤E:=by
 rcases Int.lt_or_le k 8000 with h | h
 ·rw [show max 0 (k-8000)=0 by omega]
  have:=Int.mul_nonneg k0 k0
  omega
 ·rw [show max 0 (k-8000)=k-8000 by omega]
  have:(k-8000)*(k-8000)=k*k-16000*k+64000000:=by grind
  omega
theorem B36 {al b:Bool} {R tk u0 M0 Z k u r:Int} (hR:1000≤R∧R≤3000) (hM:0≤M0∧M0≤724280) (hu : -7500≤u0-hA al∧u0-hA al≤7500) (ht:tk≠4000) (q:LnI b u0 M0 Z k u r) :
  ∃ Z' k' u' r',tkF (ktA al R tk) ([axM al (cA al) u (sg b k) r],[false],[])=.inl ([axM al (cA al) u' (sg b k') r'],[false],[])∧LnI b u0 M0 Z' k' u' r' ∧ -403≤u'-u∧u'-u≤403:=by
 obtain ⟨p,k0,k1,z0,en⟩:=q
 have hm:=Av9 hM.1 hM.2
 have en2:=Bh7 k0 en
 have kk:0≤max 0 (k-8000)*max 0 (k-8000):=Int.mul_nonneg (by omega) (by omega)
 have kk0:0≤k*k:=Int.mul_nonneg k0 k0
 have p1:=Zs (Zr p z0 (by omega) hu)
 have sl:=B33 (al:=al) (b:=b) (r:=r) (P0 (al:=al)) (show 0≤u∧u≤100000 by omega) k0 k1
 have ce:=Aa9 (al:=al) (P0 (al:=al)) (show 0≤u∧u≤100000 by omega)
 have es:slE (G4 al) [false] 0 0 0 [axM al (cA al) u (sg b k) r]=.inl [axM al (cA al) u (sg b (max 0 (k-8000))) r]:=by
  unfold slE
  show (bif !(!false&&Ql (axM al (cA al) u (sg b k) r))||Ff 0 0 ((0:Nat):Int) then _ else bif Fy (G4 al) (axM al (cA al) u (sg b k) r).1 != 0 then _ else bif (Ld (G4 al) (axM al (cA al) u (sg b k) r)).2.1 != 0 then _ else .inl [A2c (G4 al) (axM al (cA al) u (sg b k) r)]:B5⊕Int)=_
  rw [Aa7,Aja,ce.1,sl.1,sl.2,ax_mov]
  cases h:sg b k==0 with
  | true =>
   have e:sg b k=0:=by simpa using h
   have e2:k=0:=by
    unfold sg at e
    cases b with
    | true=>have e : -k=0:=e;omega
    | false=>exact e
   subst e2
   rfl
  | false=>rfl
 have n16:Z+((16:Nat):Int)*max 0 (k-8000)≤524581518:=by
  show Z+16*max 0 (k-8000)≤524581518
  omega
 obtain ⟨u',r',h1,h2⟩:=Aab (al:=al) (tk:=tk) (k:=max 0 (k-8000)) hR (by omega) (by omega) hu 16 0 Z u r p z0 n16
 refine ⟨Z+16*max 0 (k-8000),max 0 (k-8000),u',r',?_,⟨h2,by omega,by omega,by omega,en2⟩,?_⟩
 ·unfold tkF
  have e0:((ktA al R tk).t==4000)=false:=beq_eq_false_iff_ne.2 ht
  rw [e0,cond_false]
  show (match B8 (slE (G4 al) [false] 0 0) 0 1 [axM al (cA al) u (sg b k) r] with
   | .inr e=>(.inr e:S2⊕Int)
   | .inl ms=>B8 (tkE (ktA al R tk)) 0 16 (ms,[false],[]))=_
  rw [Mo es]
  exact h1
 ·have s:sg b (Z+((16:Nat):Int)*max 0 (k-8000))-sg b Z≤16*716280 ∧ -(16*716280)≤sg b (Z+((16:Nat):Int)*max 0 (k-8000))-sg b Z:=by
   unfold sg
   cases b with
   | true=>show -(Z+16*max 0 (k-8000)) - -Z≤16*716280 ∧ -(16*716280) ≤ -(Z+16*max 0 (k-8000)) - -Z;omega
   | false=>show Z+16*max 0 (k-8000)-Z≤16*716280 ∧ -(16*716280)≤Z+16*max 0 (k-8000)-Z;omega
  have a:=p.e
  have b1:=p.r1
  have b2:=p.r2
  have c:=h2.e
  have c1:=h2.r1
  have c2:=h2.r2
  omega
end Tp
end V
end Go.Proofs.YtcfanlgpkefogaaGreat
namespace Go.Proofs.YtcfanlgpkefogaaGreat
open Go.RowKit
namespace V
namespace Tp
open St
def Ei (al:Bool) (R:Int):TCT cGr:=(G4 al,[Hp R],(600,0,()),())
def Dk (al b:Bool) (u k r tk:Int):TCT cSt:=([axM al (cA al) u (sg b k) r],[false],0,0,tk,())
theorem Bh8 {al b:Bool} {u k r tk:Int}:C2 (Dk al b u k r tk)=(sg b k==0):=by
 have e:C2 (Dk al b u k r tk)=(Ga (axM al (cA al) u (sg b k) r)&&true):=rfl
 rw [e,Bool.and_true]
 have m:=ax_mov (al:=al) (c:=cA al) (u:=u) (k:=sg b k) (r:=r)
 unfold Ql at m
 unfold Ga
 cases al with
 | true =>
  show (sg b k==0&&((0:Int)==0))=_
  rw [show ((0:Int)==0)=true from rfl,Bool.and_true]
 | false =>
  show ((0:Int)==0&&(sg b k==0))=_
  rw [show ((0:Int)==0)=true from rfl,Bool.true_and]
structure Chn (al:Bool) (us:List Int) (u v:Int):Prop where
 n1:1≤us.length
 f:B7 us 0 0=u
 l:B7 us (us.length-1) 0=v
 s:∀ i:Nat,i+1<us.length → -403≤B7 us (i+1) 0-B7 us i 0∧B7 us (i+1) 0-B7 us i 0≤403
 d:∀ i:Nat,i<us.length → -25716≤B7 us i 0-hA al∧B7 us i 0-hA al≤25716
theorem Ajc {al:Bool} {u:Int} (h : -25716≤u-hA al∧u-hA al≤25716):Chn al [u] u u:=⟨Nat.le_refl _,rfl,rfl,fun i hi=>absurd hi (by simp),fun i hi=>by
 have:i=0:=by simp at hi;omega
 subst this;exact h⟩
theorem Ava {al:Bool} {us:List Int} {u u' v:Int} (c:Chn al us u' v) (h : -25716≤u-hA al∧u-hA al≤25716) (k : -403≤u'-u∧u'-u≤403):Chn al (u::us) u v:=by
 obtain ⟨n1,f,l,s,d⟩:=c
 refine ⟨by simp,rfl,?_,fun i hi=>?_,fun i hi=>?_⟩
 ·rw [← l]
  show B7 (u::us) (us.length+1-1) 0=_
  rw [show us.length+1-1=us.length-1+1 by omega];rfl
 ·cases i with
  | zero=>show -403≤B7 us 0 0-u∧B7 us 0 0-u≤403;rw [f];exact k
  | succ i=>exact s i (by simp at hi;omega)
 ·cases i with
  | zero=>exact h
  | succ i=>exact d i (by simp at hi;omega)
def M7 (al:Bool) (us:List Int):List (TCT cPt):=us.map (ptA al (cA al))
theorem Avb {al:Bool} {u:Int} {us:List Int}:M7 al (u::us)=ptA al (cA al) u::M7 al us:=rfl
theorem Bby {a:Int} {n:Nat} (h0:0≤a) (h:a+((n+1:Nat):Int)≤4000):W64 (a+1)=a+1∧0≤a+1∧a+1+(n:Int)≤4000∧a≠4000:=⟨Bi (by omega) (by omega),by omega,by omega,by omega⟩
theorem Avc {al b:Bool} {R u0 M0:Int} (hR:1000≤R∧R≤3000) (hM:0≤M0∧M0≤724280) (hu : -7500≤u0-hA al∧u0-hA al≤7500):∀ (n:Nat) (tk Z k u r:Int) (t:Kx),0≤tk→tk+(n:Int)≤4000→LnI b u0 M0 Z k u r →
  ∃ k' u' r' tk' us,rnS (Ei al R) n (Dk al b u k r tk) []=.inl (Dk al b u' k' r' tk',[])∧trS (Ei al R) 0 n (Dk al b u k r tk) [] t=.inl (Dk al b u' k' r' tk',[],t++M7 al us)∧Chn al us u u'∧us.length≤n+1∧(0≤tk'∧tk'≤4000)∧(0≤k'∧k'≤724280)∧(-14400≤r'∧r'≤14399)
 | 0,tk,Z,k,u,r,t,t0,t1,q=>by
  have p1:=Zr q.p q.z0 (by have:=Av9 hM.1 hM.2;have:=q.en;have:=Int.mul_nonneg q.k0 q.k0;omega) hu
  refine ⟨k,u,r,tk,[u],?_,?_,Ajc p1,Nat.le_refl _,⟨t0,by omega⟩,⟨q.k0,q.k1⟩,⟨q.p.r1,q.p.r2⟩⟩
  ·rw [Aup];rfl
  ·show (bif decide ((([]:Kns).length:Int)>4096) then .inr 6 else .inl (Dk al b u k r tk,[],t++[trS.atS (Dk al b u k r tk) 0]):(TCT cSt×Kns×Kx)⊕Int)=_
   cases al <;> rfl
 | n+1,tk,Z,k,u,r,t,t0,t1,q=>by
  have p1:=Zr q.p q.z0 (by have:=Av9 hM.1 hM.2;have:=q.en;have:=Int.mul_nonneg q.k0 q.k0;omega) hu
  have ea:trS.atS (Dk al b u k r tk) 0=ptA al (cA al) u:=by cases al <;> rfl
  have et:trS (Ei al R) 0 (n+1) (Dk al b u k r tk) [] t=(bif decide ((([]:Kns).length:Int)>4096) then .inr 6 else bif !C2 (Dk al b u k r tk) then match tkF (ctS (Ei al R) (Dk al b u k r tk)) (msT (Dk al b u k r tk),osT (Dk al b u k r tk),[]) with
   | .inl x=>trS (Ei al R) 0 n (nxS (Dk al b u k r tk) x) x.2.2 (t++[trS.atS (Dk al b u k r tk) 0])
   | .inr e=>.inr e
   else .inl (Dk al b u k r tk,[],t++[trS.atS (Dk al b u k r tk) 0])):=rfl
  rw [et,Auq,ea]
  rw [show decide ((([]:Kns).length:Int)>4096)=false from rfl]
  simp only [cond_false]
  cases hs:C2 (Dk al b u k r tk) with
  | true =>
   refine ⟨k,u,r,tk,[u],rfl,rfl,Ajc p1,by simp,⟨t0,by omega⟩,⟨q.k0,q.k1⟩,⟨q.p.r1,q.p.r2⟩⟩
  | false =>
   simp only [Bool.not_false,cond_true]
   obtain ⟨w1,w2,w3,w4⟩:=Bby t0 t1
   obtain ⟨Z',k',u',r',h1,h2,h3⟩:=B36 (al:=al) (R:=R) (tk:=tk) hR hM hu w4 q
   have e1:tkF (ctS (Ei al R) (Dk al b u k r tk)) (msT (Dk al b u k r tk),osT (Dk al b u k r tk),[])=.inl ([axM al (cA al) u' (sg b k') r'],[false],[]):=h1
   rw [e1]
   have e2:nxS (Dk al b u k r tk) ([axM al (cA al) u' (sg b k') r'],[false],[])=Dk al b u' k' r' (tk+1):=by
    show ([axM al (cA al) u' (sg b k') r'],[false],0,max 0 (W64 (0-1)),W64 (tk+1),())=Dk al b u' k' r' (tk+1)
    rw [w1];rfl
   simp only [e2]
   obtain ⟨k2,u2,r2,tk2,us,a1,a2,a3,a4,a5,a6,a7⟩:=Avc hR hM hu n (tk+1) Z' k' u' r' (t++[ptA al (cA al) u]) w2 w3 h2
   refine ⟨k2,u2,r2,tk2,u::us,a1,?_,Ava a3 p1 h3,by simp;omega,a5,a6,a7⟩
   rw [a2,Avb,List.append_assoc];rfl
def qA (al b:Bool) (u:Int):Int:=sg b (u-hA al)
def stq (q R:Int):Int:=bif decide (q-R ≥ -500) then 3 else bif decide (q+R>500) then 2 else bif decide (q+R > -500) then 1 else 0
theorem Avd {al b:Bool} {u R:Int} (hR:1000≤R∧R≤3000) (hu : -25716≤u-hA al∧u-hA al≤25716):Im (A2i al) (!b) (ptA al (cA al) u) R=stq (qA al b u) R∧fwd (!b) (uH (A2i al) (ptA al (cA al) u))=qA al b u:=by
 have hq : -25716≤qA al b u∧qA al b u≤25716:=by
  unfold qA sg
  cases b with
  | true=>show -25716 ≤ -(u-hA al) ∧ -(u-hA al)≤25716;omega
  | false=>exact hu
 have e1:uH (A2i al) (ptA al (cA al) u)=u-hA al:=by
  cases al with
  | true=>exact Bi (n:=u-50000) (by have h : -25716≤u-50000∧u-50000≤25716:=hu;omega) (by have h : -25716≤u-50000∧u-50000≤25716:=hu;omega)
  | false=>exact Bi (n:=u-40000) (by have h : -25716≤u-40000∧u-40000≤25716:=hu;omega) (by have h : -25716≤u-40000∧u-40000≤25716:=hu;omega)
 have e2:fwd (!b) (u-hA al)=qA al b u:=by
  unfold fwd qA sg
  cases b with
  | true =>
   show W64 (0-(u-hA al)) = -(u-hA al)
   rw [Bi (n:=0-(u-hA al)) (by omega) (by omega)];omega
  | false=>rfl
 refine ⟨?_,by rw [e1,e2]⟩
 have ev:vH (A2i al) (ptA al (cA al) u)=0:=by cases al <;> exact (by decide:W64 0=0)
 unfold Im
 rw [e1,e2,ev]
 show stn (qA al b u) 0 6000 500 R=_
 unfold stn
 rw [show decide (max 0 (W64 (0-0))≥W64 (Int.tdiv 6000 2))=false by decide,cond_false,Bi (n:=qA al b u-R) (by omega) (by omega),Bi (n:=qA al b u+R) (by omega) (by omega),show W64 (0-500) = -500 by decide]
 rfl
theorem Ve {al:Bool}:∀ {us:List Int} {i:Nat},i<us.length→Zk (M7 al us) i=ptA al (cA al) (B7 us i 0)
 | [],_,h=>absurd h (by simp)
 | u::us,0,_=>rfl
 | u::us,i+1,h=>Ve (us:=us) (i:=i) (by simp at h;omega)
theorem Xu {al:Bool} {us:List Int}:(M7 al us).length=us.length:=List.length_map _
theorem Ave {q R:Int}:stq q R=3 ↔ -500≤q-R:=by
 unfold stq
 by_cases h:q-R ≥ -500
 ·rw [decide_eq_true h];exact ⟨fun _=>h,fun _=>rfl⟩
 ·rw [decide_eq_false h]
  refine ⟨fun e=>?_,fun e=>absurd e (by omega)⟩
  by_cases h2:q+R>500
  ·rw [decide_eq_true h2] at e
   have e:(2:Int)=3:=e
   omega
  ·rw [decide_eq_false h2] at e
   by_cases h3:q+R > -500
   ·rw [decide_eq_true h3] at e
    have e:(1:Int)=3:=e
    omega
   ·rw [decide_eq_false h3] at e
    have e:(0:Int)=3:=e
    omega
theorem Bbz {q R:Int} (h:¬ -500≤q-R) (h2:q+R > -500):stq q R=1∨stq q R=2:=by
 unfold stq
 rw [decide_eq_false (show ¬ q-R ≥ -500 by omega)]
 by_cases h2:q+R>500
 ·rw [decide_eq_true h2];exact .inr rfl
 ·rw [decide_eq_false h2,decide_eq_true (by omega)];exact .inl rfl
theorem Bh9 {al b:Bool} {us:List Int} {u v R:Int} (hR:1000≤R∧R≤3000) (c:Chn al us u v) (h0:¬ -500≤qA al b u-R) (h1 : -500≤qA al b v-R):Ats (A2i al) (!b) R (M7 al us)=true:=by
 have n1:=c.n1
 unfold Ats
 cases hf:B8 (ruE (A2i al) (!b) R (M7 al us)) 0 (M7 al us).length 0 with
 | inr _=>rfl
 | inl w =>
  exfalso
  rw [Xu] at hf
  have key:=Bn (n:=us.length) (Inv:=fun i (was:Int)=>i=0∨(1≤i∧was=stq (qA al b (B7 us (i-1) 0)) R∧¬ -500≤qA al b (B7 us (i-1) 0)-R)) (fun i was was' hi q e=>by
   unfold ruE at e
   rw [Ve hi,(Avd (b:=b) hR (c.d i hi)).1] at e
   have fin:was'=stq (qA al b (B7 us i 0)) R→(¬ -500≤qA al b (B7 us i 0)-R)→(i+1=0∨(1≤i+1∧was'=stq (qA al b (B7 us (i+1-1) 0)) R∧¬ -500≤qA al b (B7 us (i+1-1) 0)-R)):=fun a b=>.inr ⟨by omega,by rw [Nat.add_sub_cancel];exact a,by rw [Nat.add_sub_cancel];exact b⟩
   rcases q with q | ⟨q1,q2,q3⟩
   ·subst q
    rw [decide_eq_false (show ¬ (((0:Nat):Int)>0) by decide),Bool.false_and,cond_false] at e
    cases e
    refine fin rfl ?_
    rw [c.f];exact h0
   ·rw [decide_eq_true (show (i:Int)>0 by omega),Bool.true_and] at e
    cases hh:B1s (stq (qA al b (B7 us i 0)) R) was with
    | true=>rw [hh] at e;cases e
    | false =>
     rw [hh,cond_false] at e
     cases e
     refine fin rfl fun h3=>?_
     have s:=c.s (i-1) (by omega)
     rw [show i-1+1=i by omega] at s
     have sq:qA al b (B7 us i 0)-qA al b (B7 us (i-1) 0)≤403:=by
      unfold qA sg
      cases b with
      | true=>show -(B7 us i 0-hA al) - -(B7 us (i-1) 0-hA al)≤403;omega
      | false=>show B7 us i 0-hA al-(B7 us (i-1) 0-hA al)≤403;omega
     have h12:=Bbz q3 (by omega)
     rw [← q2] at h12
     rw [Ave.2 h3] at hh
     unfold B1s at hh
     rcases h12 with h | h
     ·rw [h] at hh;exact absurd hh (by decide)
     ·rw [h] at hh;exact absurd hh (by decide)) us.length 0 0 w (by omega) (.inl rfl) hf
  rcases key with k | ⟨_,_,k⟩
  ·omega
  ·rw [c.l] at k;exact k h1
end Tp
end V
end Go.Proofs.YtcfanlgpkefogaaGreat
