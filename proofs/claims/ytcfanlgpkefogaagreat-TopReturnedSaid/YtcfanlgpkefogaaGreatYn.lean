import Derived.Test.YtcfanlgpkefogaaGreatYl
import Derived.Test.YtcfanlgpkefogaaGreatNd
import Derived.Test.YtcfanlgpkefogaaGreatAt
namespace Go.Proofs.YtcfanlgpkefogaaGreat
open Go.RowKit
namespace V
namespace Tp
open St
theorem Acy {a:Int} {n:Nat} (h0:0≤a) (h:a+((n+1:Nat):Int)≤4000):W64 (a+1)=a+1∧0≤a+1∧a+1+(n:Int)≤4000∧a≠4000:=⟨Bi (by omega) (by omega),by omega,by omega,by omega⟩
theorem Aln {g:TCT cGr}:∀ (n:Nat) (s:TCT cSt) (ks:Kns) (e:Int),StaOk g s→0≤s.2.2.2.2.1→s.2.2.2.2.1+(n:Int)≤4000→rnS g n s ks=.inr e→e=4∨e=6
 | 0,s,ks,e,_,_,_,h=>by
  rw [A02] at h
  cases h1:decide ((ks.length:Int)>4096) with
  | true=>rw [h1] at h;cases h;exact .inr rfl
  | false=>rw [h1] at h;cases h
 | n+1,s,ks,e,q,t0,t1,h=>by
  rw [A03] at h
  cases h1:decide ((ks.length:Int)>4096) with
  | true=>rw [h1] at h;cases h;exact .inr rfl
  | false =>
   rw [h1,cond_false] at h
   cases h2:Dh s with
   | true=>rw [h2] at h;cases h
   | false =>
    rw [h2] at h
    simp only [Bool.not_false,cond_true] at h
    cases h3:tkF (ctS g s) (msT s,osT s,ks) with
    | inl r =>
     rw [h3] at h
     obtain ⟨w,w1,w2,_⟩:=Acy t0 t1
     have w:(nxS s r).2.2.2.2.1=s.2.2.2.2.1+1:=w
     exact Aln n (nxS s r) r.2.2 e (Tg q h3) (by rw [w];exact w1) (by rw [w];exact w2) h
    | inr x =>
     rw [h3] at h
     cases h
     rw [Bbt] at h3
     cases h4:tkF (ctS g s) (msT s,osT s,[]) with
     | inl r=>rw [h4] at h3;cases h3
     | inr y =>
      rw [h4] at h3
      cases h3
      exact .inl (Aan q (Acy t0 t1).2.2.2 h4)
def Mn (os:List Bool):Nat→Nat
 | 0=>0
 | i+1=>Mn os i+(Ci os i).toNat
theorem A53 {os:List Bool}:∀ (k i:Nat),Mn os i≤Mn os (i+k)
 | 0,_=>Nat.le_refl _
 | k+1,i=>Nat.le_trans (A53 k i) (by rw [show i+(k+1)=i+k+1 by omega];show Mn os (i+k)≤Mn os (i+k)+_;omega)
theorem Acz {ps:List (TCT cPt)} {p:TCT cPt}:ps.map dcR++[dcR p]=(ps++[p]).map dcR:=by rw [List.map_append];rfl
structure RtOk (l:List (TCT D6)) (g:TCT cGr) (u:TCT cSt) (d:Int):Prop where
 s:StaOk g u
 f:OF g.1 (A4 g).length (msT u) (osT u)
 n:(A4 g).length=l.length
 n4:l.length≤4
 gr:g.1=grn d 0
def qRe (l:List (TCT D6)) (g:TCT cGr) (u:TCT cSt):QRe:=⟨l,E5 g,N2 u⟩
theorem Ah6 {l:List (TCT D6)} {g:TCT cGr} {u:TCT cSt} (i:Nat):Bdr (qRe l g u) (i:Int)=Ci (osT u) i∧atQ (qRe l g u) (i:Int)=(A8 (msT u) i).1:=⟨rfl,rfl⟩
theorem Ah7 {l:List (TCT D6)} {g:TCT cGr} {u:TCT cSt} {d:Int} (h:RtOk l g u d):∀ (k i m:Nat) (ps:List (TCT cPt)),i+k=l.length→k+1≤m→ps.length+Mn (osT u) i=i→(∀ p ∈ ps,onB g.1 p=true) →
  ∃ ps':List (TCT cPt),iter Nv m (M5 (qRe l g u) (ps.map dcR) ps (i:Int))=some (Ah1 (qRe l g u) (ps'.map dcR) ps')∧ps'.length+Mn (osT u) l.length=l.length∧∀ p ∈ ps',onB g.1 p=true
 | k,i,0,ps,_,hm,_,_=>by omega
 | 0,i,m+1,ps,hk,_,hl,hp=>by
  have e:i=l.length:=by omega
  subst e
  refine ⟨ps,Ib ?_,hl,hp⟩
  show (A2g (qRe l g u) (ps.map dcR) ps (l.length:Int)).run=_
  unfold A2g
  rw [show decide ((l.length:Int)<((qRe l g u).l.length:Int))=false from decide_eq_false (Int.lt_irrefl _)]
  rfl
 | k+1,i,m+1,ps,hk,hm,hl,hp=>by
  have n4:=h.n4
  have hn:=h.n
  have ho:=h.s.o
  have hms:=h.s.m
  have hi:i<l.length:=by omega
  obtain ⟨e1,e2⟩:=Ah6 (l:=l) (g:=g) (u:=u) i
  have ol:=(Ro h.s).2 i (by omega)
  have st:∀ x:Bool,Ci (osT u) i=x→(Nv (M5 (qRe l g u) (ps.map dcR) ps (i:Int))).run=some (.inl (bif !x then M5 (qRe l g u) ((ps++[(A8 (msT u) i).1]).map dcR) (ps++[(A8 (msT u) i).1]) ((i+1:Nat):Int) else M5 (qRe l g u) (ps.map dcR) ps ((i+1:Nat):Int))):=by
   intro x hx
   show (A2g (qRe l g u) (ps.map dcR) ps (i:Int)).run=_
   unfold A2g
   rw [show decide ((i:Int)<((qRe l g u).l.length:Int))=true from decide_eq_true (by show (i:Int)<(l.length:Int);omega),cond_true,Dd (by show 0≤(i:Int)∧(i:Int)<((osT u).length:Int);omega),e1,e2,hx,Bi (n:=(i:Int)+1) (by omega) (by omega),Dd (by show 0≤(i:Int)∧(i:Int)<((msT u).length:Int);omega),Dd (by show 0≤(i:Int)∧(i:Int)<((msT u).length:Int);omega),Jm (by rw [List.length_map,List.length_singleton];omega) (by decide),Jm (by rw [List.length_singleton];omega) (by decide),Acz]
   cases x <;> rfl
  cases hx:Ci (osT u) i with
  | true =>
   obtain ⟨ps',a,b,c⟩:=Ah7 h k (i+1) m ps (by omega) (by omega) (by show ps.length+(Mn (osT u) i+(Ci (osT u) i).toNat)=i+1;rw [hx];show ps.length+(Mn (osT u) i+1)=i+1;omega) hp
   exact ⟨ps',(Lq (st true hx)).trans a,b,c⟩
  | false =>
   obtain ⟨ps',a,b,c⟩:=Ah7 h k (i+1) m (ps++[(A8 (msT u) i).1]) (by omega) (by omega) (by rw [List.length_append,List.length_singleton];show ps.length+1+(Mn (osT u) i+(Ci (osT u) i).toNat)=i+1;rw [hx];show ps.length+1+(Mn (osT u) i+0)=i+1;omega) (fun p hp'=>by
    rcases List.mem_append.1 hp' with q | q
    ·exact hp p q
    ·rw [List.mem_singleton.1 q];exact ol hx)
   exact ⟨ps',(Lq (st false hx)).trans a,b,c⟩
theorem Bm3 {d:Int} {p:TCT cPt} (h:onB (grn d 0) p=true):fpt p.1 p.2.1=true:=by
 unfold onB at h
 rw [Bool.and_eq_true] at h
 have a:0≤p.1∧p.1≤100000:=F3.1 h.1
 have b:0≤p.2.1∧p.2.1≤200000:=F3.1 h.2
 have key:∀ x y:Int,(0≤x∧x≤100000)→(0≤y∧y≤200000)→fpt x y=true:=fun x y a b=>decide_eq_true (by omega)
 exact key _ _ a b
theorem B8p {d a b:Int} (h:Ln a b):onB (grn d 0) (a,b,())=true:=by
 obtain ⟨h1,h2,_⟩:=h
 unfold onB
 rw [show St.inR a 0 (grn d 0).2.1=true from F3.2 (show 0≤a∧a≤100000 by omega),show St.inR b 0 (grn d 0).2.2.1=true from F3.2 (show 0≤b∧b≤200000 by omega)];rfl
theorem Y7 {f:TCT A2→Bool}:∀ (a:List (TCT A2)) (i:Int),(iwF f a i).length≤a.length
 | [],_=>Nat.le_refl _
 | x::a,i=>by
  have:=Y7 (f:=f) a (i+1)
  show (bif f x then i::iwF f a (i+1) else iwF f a (i+1)).length≤_
  cases f x with
  | true=>rw [cond_true,List.length_cons,List.length_cons];omega
  | false=>rw [cond_false,List.length_cons];omega
theorem Alo {d a b:Int} {ps:List (TCT cPt)} (hl:Ck (grn d 0)=0) (h:Ln a b) (h4:ps.length≤4) (hps:∀ q ∈ ps,fpt q.1 q.2.1=true):Ie (grn d 0) (a,b,()) 2946 (ps.map dcR)=(iwF (iwD (a,b,()) (a,b,()) 2946) (Bz (grn d 0)) 0++iwF (iwD (a,b,()) (a,b,()) 2946) (ps.map dcR) 5,0):=by
 have hf:=(Alk h).2.2.1
 have hcb:cbE 2946 (ps.map dcR)=0:=by
  unfold cbE
  have a1:(ps.map dcR).any cbP=false:=by
   rw [List.any_eq_false]
   intro x hx
   obtain ⟨q,hq,rfl⟩:=List.mem_map.1 hx
   unfold cbP
   show ¬ (Gu q.1 q.2.1 != 0||!St.inR 2946 1 16384)=true
   rw [Mz,hps q hq,show St.inR 2946 1 16384=true by decide]
   decide
  rw [show St.inR 2946 1 16384=true by decide,a1,decide_eq_false (show ¬ ((ps.map dcR).length:Int)>12 by rw [List.length_map];omega)]
  rfl
 have he:Ke (grn d 0) (a,b,()) (a,b,()) 2946 (ps.map dcR)=0:=by
  unfold Ke
  rw [hl]
  show (bif Gu a b != 0 then 2 else bif Gu a b != 0 then 2 else cbE 2946 (ps.map dcR):Int)=0
  rw [Mz,hf,hcb];rfl
 unfold Ie Rb
 rw [he]
 show (iwF (iwD (a,b,()) (a,b,()) 2946) (Bz (grn d 0)++ps.map dcR) 0,(0:Int))=_
 rw [All,A7v];rfl
theorem Bj4 {f:TCT A2→Bool} {d:Int} {os:List (TCT A2)} (h:os.length≤100):(iwF f (Bz (grn d 0)) 0++iwF f os 5).length≤1000000:=by
 have a:=Y7 (f:=f) (Bz (grn d 0)) 0
 have b:=Y7 (f:=f) os 5
 rw [A7v] at a
 rw [List.length_append]
 omega
theorem Bj5 {p s:TCT cPt} {f:List Int} {k:A2h} {o:Option (Pm.T⊕A1 Uu)} (h:atS p s=false→f≠[]∧f.length≤1000000∧5≤Ra f) (hk:k.run=o):(A2i p s f k).run=o:=by
 unfold A2i
 cases h1:atS p s with
 | true=>exact hk
 | false =>
  obtain ⟨a,b,c⟩:=h h1
  have hn:((f.length:Int)==0)=false:=by
   cases f with
   | nil=>exact absurd rfl a
   | cons x f=>rw [List.length_cons];exact beq_eq_false_iff_ne.2 (by omega)
  rw [hn,Dd (Acx a b).2,decide_eq_false (show ¬ Ra f<5 by omega)]
  exact hk
theorem B6c {g:TCT cGr} {u:TCT cSt} (h:StaOk g u) {i:Nat} (hi:i<(A4 g).length):fpt (A8 (msT u) i).1.1 (A8 (msT u) i).1.2.1=true:=by
 have k:=(Ro h).1.ok i hi
 have k:(bm (E6 (A4 g) i) (A8 (msT u) i)).ok=true:=k
 exact (Bm.fit k).p
theorem B6d {g:TCT cGr} {u:TCT cSt} {d:Int} (h:StaOk g u) (hgr:g.1=grn d 0):Ck (grn d 0)=0:=by
 have:=h.gr
 unfold groE at this
 rw [hgr] at this
 cases hc:Ck (grn d 0)!=0 with
 | true=>rw [hc] at this;exact absurd this (bne_iff_ne.1 hc)
 | false=>exact bne_eq_false_iff_eq.1 hc
structure Ans (d:Int) (at_:TCT cPt) (ps:List (TCT cPt)) (a b x y:Int):Prop where
 ln:Ln a b
 ls:Ln x y
 eS:spV (grn d 0) at_=((x,y,()),true,0,())
 eP:puV7 (grn d 0) at_ 2946 (ps.map dcR)=((a,b,()),0)
 eN:(Jr (grn d 0) (a,b,())).2=0
 eO:Js (grn d 0) (a,b,())=(true,0)
 no:ps.any (nr a b)=false
 fr:ps.any (nr x y)=false→(a,b,())=((x,y,()):TCT cPt)
theorem Bdu {d:Int} {p:TCT cPt} {ps:List (TCT cPt)} (hlaw:Ck (grn d 0)=0) (hoff:onB (grn d 0) p=false) (hfp:fpt p.1 p.2.1=true) (p3:ps.length≤3) (hps:∀ q ∈ ps,fpt q.1 q.2.1=true):∃ a b x y,Ans d p ps a b x y:=by
 obtain ⟨hsl,hsb⟩:=B8o hoff
 obtain ⟨pe,n,n0,n1,pv,pn,pf⟩:=put_G hlaw hoff hfp p3 hps
 have gl:=Bj1 n0 n1
 have gf:=(Alk gl).2.2.1
 have hone:Gc (grn d 0) p=0:=by
  unfold Gc
  rw [hlaw,hfp];rfl
 have honeP:Gc (grn d 0) (gx n,gy n,())=0:=by
  unfold Gc
  rw [hlaw]
  show (bif fpt (gx n) (gy n) then 0 else 2:Int)=0
  rw [gf];rfl
 refine ⟨gx n,gy n,(Fz (grn d 0) p).1,(Fz (grn d 0) p).2.1,gl,hsl,?_,?_,?_,?_,pn,pf⟩
 ·unfold spV
  rw [hone,hsb];rfl
 ·unfold puV7
  rw [pv,pe]
 ·show nuE (grn d 0) (gx n,gy n,())=0
  unfold nuE
  have k0:=(Bj2 gl).1.1
  rw [honeP,A52,decide_eq_false (show ¬ Kx yG (gx n,gy n,())<0 by omega)];rfl
 ·show (onV (grn d 0) (gx n,gy n,()),Gc (grn d 0) (gx n,gy n,()))=_
  unfold onV
  rw [honeP,B8p gl];rfl
theorem Bdv {q:QRe} {ps:List (TCT cPt)} {i:Nat} {p:TCT cPt} (h:ps.length≤100) (hi:i≤100):(Ah4 q (ps.map dcR) ps (i:Int) p).run=some (.inl (Kt q ((ps++[p]).map dcR) (ps++[p]) ((i+1:Nat):Int))):=by
 unfold Ah4
 rw [Jm (by rw [List.length_map,List.length_singleton];omega) (by decide),Jm (by rw [List.length_singleton];omega) (by decide),Acz,Bi (n:=(i:Int)+1) (by omega) (by omega)]
 rfl
theorem Bj6 {d a b x y:Int} {at_:TCT cPt} {q:QRe} {ps:List (TCT cPt)} {i:Nat} (hlaw:Ck (grn d 0)=0) (h:Ans d at_ ps a b x y) (p3:ps.length≤3) (hi:i≤100) (hps:∀ q ∈ ps,fpt q.1 q.2.1=true) :
  (Ayq q (ps.map dcR) ps (i:Int) (a,b,()) ((x,y,()),true,0,()) (Ie (grn d 0) (a,b,()) 2946 (ps.map dcR)) (Ie (grn d 0) (x,y,()) 2946 (ps.map dcR))).run=some (.inl (Kt q ((ps++[(a,b,())]).map dcR) (ps++[(a,b,())]) ((i+1:Nat):Int))):=by
 rw [Alo (d:=d) (ps:=ps) hlaw h.ln (by omega) hps,Alo (d:=d) (ps:=ps) hlaw h.ls (by omega) hps]
 have no:iwF (iwD (a,b,()) (a,b,()) 2946) (ps.map dcR) 5=[]:=Az2 _ _ (by rw [Az4 h.ln hps];exact h.no)
 rw [no,List.append_nil]
 have add:=Bdv (q:=q) (ps:=ps) (i:=i) (p:=(a,b,())) (by omega) hi
 have ny:ps.any (nr x y)=true→iwF (iwD (x,y,()) (x,y,()) 2946) (ps.map dcR) 5≠[]:=fun e=>Alm (ps.map dcR) 5 (by rw [Az4 h.ls hps];exact e)
 have tl:=Bj4 (d:=d) (f:=iwD (x,y,()) (x,y,()) 2946) (os:=ps.map dcR) (by rw [List.length_map];omega)
 have lb:∀ k ∈ iwF (iwD (x,y,()) (x,y,()) 2946) (ps.map dcR) 5,5≤k:=fun k hk=>(A7u _ 5 k hk).1
 have pb:∀ k ∈ iwF (iwD (a,b,()) (a,b,()) 2946) (Bz (grn d 0)) 0,k<5:=fun k hk=>by
  have:=(A7u _ 0 k hk).2
  rw [A7v] at this
  omega
 have pl:(iwF (iwD (a,b,()) (a,b,()) 2946) (Bz (grn d 0)) 0).length≤1000000:=by
  have:=Y7 (f:=iwD (a,b,()) (a,b,()) 2946) (Bz (grn d 0)) 0
  rw [A7v] at this
  omega
 have fr:=h.fr
 generalize iwF (iwD (a,b,()) (a,b,()) 2946) (Bz (grn d 0)) 0=A at *
 generalize iwF (iwD (x,y,()) (x,y,()) 2946) (Bz (grn d 0)) 0=B at *
 generalize iwF (iwD (x,y,()) (x,y,()) 2946) (ps.map dcR) 5=C at *
 have k2:(A2i (a,b,()) (x,y,()) (B++C) (Ah4 q (ps.map dcR) ps (i:Int) (a,b,()))).run=some (.inl (Kt q ((ps++[(a,b,())]).map dcR) (ps++[(a,b,())]) ((i+1:Nat):Int))):=by
  refine Bj5 (fun hne=>?_) add
  have hany:ps.any (nr x y)=true:=by
   cases hc:ps.any (nr x y) with
   | true=>rfl
   | false =>
    rw [fr hc] at hne
    unfold atS at hne
    rw [beq_self_eq_true,beq_self_eq_true] at hne
    cases hne
  exact ⟨fun e=>ny hany (List.append_eq_nil_iff.1 e).2,tl,lb _ (Az3 (ny hany) tl)⟩
 unfold Ayq
 show (bif decide ((A.length:Int)>0) then inN A.length (W64 ((A.length:Int)-1)) (bif decide (Ra A≥5) then no1 else A2i (a,b,()) (x,y,()) (B++C) (Ah4 q (ps.map dcR) ps (i:Int) (a,b,()))) else A2i (a,b,()) (x,y,()) (B++C) (Ah4 q (ps.map dcR) ps (i:Int) (a,b,())):A2h).run=_
 cases hd:decide ((A.length:Int)>0) with
 | false=>exact k2
 | true =>
  have hd':=of_decide_eq_true hd
  have nil:A≠[]:=fun e=>by rw [e] at hd';exact absurd hd' (by decide)
  have lm:=Acx nil pl
  have l5:=pb _ lm.1
  rw [cond_true,Dd lm.2,decide_eq_false (show ¬ Ra A≥5 by omega)]
  exact k2
theorem B6e {l:List (TCT D6)} {g:TCT cGr} {u:TCT cSt} {d:Int} (h:RtOk l g u d) {i:Nat} {ps:List (TCT cPt)} (hi:i<l.length) (hx:Ci (osT u) i=true) (p3:ps.length≤3) (hp:∀ p ∈ ps,onB g.1 p=true) :
  ∃ p:TCT cPt,onB g.1 p=true∧(Nw spV puV7 Jr Js Ie (Kt (qRe l g u) (ps.map dcR) ps (i:Int))).run=some (.inl (Kt (qRe l g u) ((ps++[p]).map dcR) (ps++[p]) ((i+1:Nat):Int))):=by
 have n4:=h.n4
 have hn:=h.n
 have ho:=h.s.o
 have hms:=h.s.m
 obtain ⟨e1,e2⟩:=Ah6 (l:=l) (g:=g) (u:=u) i
 have hgr:=h.gr
 have hlaw:=B6d h.s hgr
 have hw:lwG (qRe l g u).g=grn d 0:=hgr
 have hoff:onB (grn d 0) (A8 (msT u) i).1=false:=by
  have:=h.f i (by omega) hx
  rw [hgr] at this
  exact this
 have hfp:=B6c h.s (i:=i) (by omega)
 have hps:∀ q ∈ ps,fpt q.1 q.2.1=true:=fun q hq=>Bm3 (d:=d) (by rw [← hgr];exact hp q hq)
 generalize (A8 (msT u) i).1=at_ at *
 obtain ⟨a,b,x,y,an⟩:=Bdu hlaw hoff hfp p3 hps
 refine ⟨(a,b,()),by rw [hgr];exact B8p an.ln,?_⟩
 have sz:Aou (grn d 0)=true:=decide_eq_true (Of d 0)
 have op:A50 (grn d 0)=true:=by
  unfold A50
  rw [B8n,show decide (((grn d 0).1.size:Int)≤Bl .i64)=true from sz];decide
 show (Sm spV puV7 Jr Js Ie (qRe l g u) (ps.map dcR) ps (i:Int)).run=_
 unfold Sm
 rw [show decide ((i:Int)<((qRe l g u).l.length:Int))=true from decide_eq_true (by show (i:Int)<(l.length:Int);omega),cond_true,Dd (by show 0≤(i:Int)∧(i:Int)<((osT u).length:Int);omega),e1,hx,hw]
 unfold sz7
 rw [sz,op]
 simp only [Bool.not_true,cond_false,cond_true]
 rw [Dd (by show 0≤(i:Int)∧(i:Int)<((msT u).length:Int);omega),Dd (by show 0≤(i:Int)∧(i:Int)<((msT u).length:Int);omega),Dd (by show 0≤(i:Int)∧(i:Int)<((msT u).length:Int);omega)]
 unfold B8k
 rw [e2,an.eS,an.eP]
 show (Ayr Ie (grn d 0) (qRe l g u) (ps.map dcR) ps (i:Int) ((x,y,()),true,0,()) ((a,b,()),0) (Jr (grn d 0) (a,b,())) (Js (grn d 0) (a,b,()))).run=_
 unfold Ayr sz7
 rw [an.eN,an.eO,sz]
 exact Bj6 hlaw an p3 (by omega) hps
theorem Ah8 {l:List (TCT D6)} {g:TCT cGr} {u:TCT cSt} {d:Int} (h:RtOk l g u d):∀ (k i m:Nat) (ps:List (TCT cPt)),i+k=l.length→k+1≤m→ps.length+Mn (osT u) l.length=l.length+Mn (osT u) i→(∀ p ∈ ps,onB g.1 p=true) →
  ∃ ps':List (TCT cPt),iter (Nw spV puV7 Jr Js Ie) m (Kt (qRe l g u) (ps.map dcR) ps (i:Int))=some (Ah3 (qRe l g u) ps')∧ps'.length=l.length∧∀ p ∈ ps',onB g.1 p=true
 | k,i,0,ps,_,hm,_,_=>by omega
 | 0,i,m+1,ps,hk,_,hl,hp=>by
  have e:i=l.length:=by omega
  subst e
  refine ⟨ps,Ib ?_,by omega,hp⟩
  show (Sm spV puV7 Jr Js Ie (qRe l g u) (ps.map dcR) ps (l.length:Int)).run=_
  unfold Sm
  rw [show decide ((l.length:Int)<((qRe l g u).l.length:Int))=false from decide_eq_false (Int.lt_irrefl _)]
  rfl
 | k+1,i,m+1,ps,hk,hm,hl,hp=>by
  have n4:=h.n4
  have hn:=h.n
  have ho:=h.s.o
  have hi:i<l.length:=by omega
  have e1:=(Ah6 (l:=l) (g:=g) (u:=u) i).1
  have nm:=A53 (os:=osT u) (l.length-(i+1)) (i+1)
  rw [show i+1+(l.length-(i+1))=l.length by omega] at nm
  have e:Mn (osT u) (i+1)=Mn (osT u) i+(Ci (osT u) i).toNat:=rfl
  cases hx:Ci (osT u) i with
  | false =>
   rw [hx] at e
   have e:Mn (osT u) (i+1)=Mn (osT u) i:=e
   obtain ⟨ps',a,b,c⟩:=Ah8 h k (i+1) m ps (by omega) (by omega) (by rw [e];exact hl) hp
   refine ⟨ps',(Lq ?_).trans a,b,c⟩
   show (Sm spV puV7 Jr Js Ie (qRe l g u) (ps.map dcR) ps (i:Int)).run=_
   unfold Sm
   rw [show decide ((i:Int)<((qRe l g u).l.length:Int))=true from decide_eq_true (by show (i:Int)<(l.length:Int);omega),cond_true,Dd (by show 0≤(i:Int)∧(i:Int)<((osT u).length:Int);omega),e1,hx,Bi (n:=(i:Int)+1) (by omega) (by omega)]
   rfl
  | true =>
   rw [hx] at e
   have e:Mn (osT u) (i+1)=Mn (osT u) i+1:=e
   obtain ⟨p,hpo,hst⟩:=B6e h hi hx (ps:=ps) (by omega) hp
   obtain ⟨ps',a,b,c⟩:=Ah8 h k (i+1) m (ps++[p]) (by omega) (by omega) (by rw [List.length_append,List.length_singleton,e];omega) (fun q hq=>by
    rcases List.mem_append.1 hq with z | z
    ·exact hp q z
    ·rw [List.mem_singleton.1 z];exact hpo)
   exact ⟨ps',(Lq hst).trans a,b,c⟩
end Tp
end V
end Go.Proofs.YtcfanlgpkefogaaGreat
namespace Go.Proofs.YtcfanlgpkefogaaGreat
open Go.RowKit
namespace V
namespace Tp
open St
theorem Alp {l:TCT A5} {p:List (TCT cPt)} (h:∀ j:Nat,j<p.length→At6 l p j=true):∀ (k i:Nat) (ms:List (TCT Bd)),i+k=p.length→∃ ms':List (TCT Bd),B6 (f_li l p) i k ms=.inl ms'∧ms'.length=ms.length+k
 | 0,_,ms,_=>⟨ms,rfl,rfl⟩
 | k+1,i,ms,hk=>by
  have e:f_li l p i ms=.inl (ms++[A9j (Bc p i (B7 cPt))]):=by
   unfold f_li
   rw [h i (by omega)];rfl
  obtain ⟨ms',a,b⟩:=Alp h k (i+1) (ms++[A9j (Bc p i (B7 cPt))]) (by omega)
  refine ⟨ms',?_,by rw [b,List.length_append,List.length_singleton];omega⟩
  unfold B6
  rw [e]
  exact a
theorem B6f {g:TCT cGr} {ps:List (TCT cPt)} (hg:groE g=0) (hn:ps.length=(A4 g).length) (hp:∀ p ∈ ps,onB g.1 p=true):(G3 g ps).2.1=0∧(msT (G3 g ps).1).length=ps.length:=by
 obtain ⟨ms,a,b⟩:=Alp (l:=g.1) (p:=ps) (fun j hj=>by
  have:=hp _ (Ek hj (B7 cPt))
  exact this) ps.length 0 [] (by omega)
 unfold G3
 rw [hg,a]
 have e:A2v ps.length (A4 g).length=false:=by
  unfold A2v
  rw [hn];exact bne_eq_false_iff_eq.2 rfl
 rw [e]
 refine ⟨rfl,?_⟩
 show ms.length=_
 rw [b];simp
theorem Bj7 {l:List (TCT D6)} {g:TCT cGr} {ps:List (TCT cPt)} (hs:(g.1.1.size:Int)≤Bl .i64) (hg:groE g=0) (hb:(A4 g).length=l.length) (hn:ps.length=l.length) (hp:∀ p ∈ ps,onB g.1 p=true):(Ayu Wg l (E5 g) ps).sat (fun _=>True):=by
 obtain ⟨a,b⟩:=B6f hg (hn.trans hb.symm) hp
 unfold Ayu
 rw [show Adc (A2s (E5 g))=true from decide_eq_true hs]
 show (bif (G3 g ps).2.1==0 then bif ((msT (G3 g ps).1).length:Int)==(l.length:Int) then Rf else .fail else .fail:Tree Unit).sat _
 rw [a,b,hn,beq_self_eq_true,beq_self_eq_true]
 exact trivial
theorem Bj8 {l:List (TCT D6)} {g:TCT cGr} {u:TCT cSt} {d:Int} (h:RtOk l g u d) (hs:(g.1.1.size:Int)≤Bl .i64):(Ayv Wg spV puV7 Jr Js Ie (iter Nv (l.length+1) (M5 ⟨l,E5 g,N2 u⟩ [] [] 0))).sat (fun _=>True):=by
 obtain ⟨ps,a1,a2,a3⟩:=Ah7 h l.length 0 (l.length+1) [] (by omega) (by omega) rfl (fun _ h=>nomatch h)
 have a1:iter Nv (l.length+1) (M5 ⟨l,E5 g,N2 u⟩ [] [] 0)=some (Ah1 (qRe l g u) (ps.map dcR) ps):=a1
 rw [a1]
 show (B8l Wg (iter (Nw spV puV7 Jr Js Ie) (l.length+1) (Kt (qRe l g u) (ps.map dcR) ps 0))).sat _
 obtain ⟨qs,b1,b2,b3⟩:=Ah8 h l.length 0 (l.length+1) ps (by omega) (by omega) (by show ps.length+Mn (osT u) l.length=l.length+0;omega) a3
 have b1:iter (Nw spV puV7 Jr Js Ie) (l.length+1) (Kt (qRe l g u) (ps.map dcR) ps 0)=some (Ah3 (qRe l g u) qs):=b1
 rw [b1]
 exact Bj7 hs h.s.gr h.n b2 b3
theorem Bdw {l:List (TCT D6)} {g:TCT cGr} {t:TCT cSt} {d:Int} {n:Nat} (hn:n≤60) (hs:(g.1.1.size:Int)≤Bl .i64) (h:RtOk l g t d) (t0:t.2.2.2.2.1=0):(Ayw Wg spV puV7 Jr Js Ie l g (Aaf (rnS g n t []))).sat (fun _=>True):=by
 cases hr:rnS g n t [] with
 | inr e =>
  have e4:=Aln n t [] e h.s (by rw [t0];exact Int.le_refl _) (by rw [t0,Int.zero_add];exact Int.le_trans (show (n:Int)≤60 by omega) (by decide)) hr
  show (bif e != 0 then er_re e else _:Tree Unit).sat _
  rcases e4 with rfl | rfl <;> exact trivial
 | inl r =>
  obtain ⟨su,_⟩:=Ajo n t [] r h.s hr
  have of:=Alj n t [] r h.s h.f hr
  have hm:(msT r.1).length=l.length:=su.m.trans h.n
  have ho:(osT r.1).length=l.length:=su.o.trans h.n
  show (bif ((msT r.1).length:Int)!=(l.length:Int) then _ else bif ((osT r.1).length:Int)!=(l.length:Int) then _ else Ayv Wg spV puV7 Jr Js Ie (iter Nv (l.length+1) (M5 ⟨l,E5 g,N2 r.1⟩ [] [] 0)):Tree Unit).sat _
  rw [hm,ho,bne_eq_false_iff_eq.2 rfl]
  exact Bj8 ⟨su,of,h.n,h.n4,h.gr⟩ hs
theorem Aov {l:List (TCT D6)} {w:TCT Ku} {tk:Int} (hw:WFD Ku w) (h0:(l.length:Int)≠0) (h4:¬ (l.length:Int)>4) (ht:0≤tk∧tk≤255):(Ayx skV PlayV Wg spV puV7 Jr Js Ie l tk (Gr 500 0 (700,0,()) l) (Hw 500 0 (700,0,()) l) (If 500 0 (700,0,()) l) (Fx w 0)).sat (fun _=>True):=by
 unfold Ayx
 cases hb:If 500 0 (700,0,()) l with
 | false=>exact trivial
 | true =>
  obtain ⟨hS,hst,hout,hlen,hgr⟩:=Aqd hb
  have hs:((Gr 500 0 (700,0,()) l).1.1.size:Int)≤Bl .i64:=by rw [hgr];exact Of 500 0
  generalize Gr 500 0 (700,0,()) l=g at *
  generalize Hw 500 0 (700,0,()) l=s at *
  rw [Bool.not_true,cond_false,Dg hs]
  have hbw:bwB ((A4 g).length:Int) (Fx w 0)=false:=Aqc hw (by omega)
  have k:SkOk g s (Fx w 0):=⟨hS,Aje hbw,hst,hout _⟩
  unfold B8m
  cases he2:(skV g s (Fx w 0)).2.2.1 != 0 with
  | true =>
   rw [Avt k hbw (bne_iff_ne.1 he2)]
   exact trivial
  | false =>
   have he':=bne_eq_false_iff_eq.1 he2
   obtain ⟨t1,_⟩:=Af5 he'
   obtain ⟨_,t0,_,_⟩:=Avv he'
   have ho:=Bj0 he'
   rw [cond_false,Dg hs]
   have w1:W64 tk=tk:=Bi (by omega) (by omega)
   have m1:Int.tmod (W64 tk) 61=((tk % 61).toNat:Int):=by
    rw [w1,Int.tmod_eq_emod_of_nonneg ht.1]
    omega
   have r:RtOk l g (skV g s (Fx w 0)).1 500:=⟨t1,fun j hj e=>(by rw [ho,hout j] at e;cases e),hlen,by omega,hgr⟩
   have pl:=play_of (n:=(tk % 61).toNat) t1 (by omega)
   rw [m1]
   show (Ayw Wg spV puV7 Jr Js Ie l g (PlayV g (skV g s (Fx w 0)).1 ((tk % 61).toNat:Int))).sat _
   rw [pl]
   exact Bdw (by omega) hs r t0
theorem Bdx {l:List (TCT D6)} {w:TCT Ku} {tk:Int} (hw:WFD Ku w) (ht:0≤tk∧tk≤255):(B66 Gr Hw If Fx skV PlayV Wg spV puV7 Jr Js Ie l w tk).sat (fun _=>True):=by
 unfold B66
 cases h1:(l.length:Int)==0 with
 | true=>exact trivial
 | false =>
  rw [cond_false]
  cases h2:decide ((l.length:Int)>4) with
  | true=>exact trivial
  | false =>
   have h3:=of_decide_eq_false h2
   rw [cond_false,decide_eq_true (by omega),cond_true]
   exact Aov hw (by intro e;rw [e] at h1;cases h1) h3 ht
end Tp
open Tp
theorem topReturned_sat:LawSat X_topReturned 8 cs_topReturned 10:=Ay0 10 (fun y=>B66 Gr Hw If Fx St.skV St.PlayV Wg spV puV7 Jr Js Ie y.1 y.2.1 y.2.2.1) (B67 Gr Hw If Fx St.skV St.PlayV Wg spV puV7 Jr Js Ie) fun _ hw=>Bdx hw.2.1 hw.2.2.1
end V
end Go.Proofs.YtcfanlgpkefogaaGreat
