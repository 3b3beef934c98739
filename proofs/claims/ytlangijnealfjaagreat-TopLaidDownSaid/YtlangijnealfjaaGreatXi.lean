import Derived.Test.YtlangijnealfjaaGreatXf
import Derived.Test.YtlangijnealfjaaGreatNd
namespace Go.Proofs.YtlangijnealfjaaGreat
open Go.RowKit
namespace V
namespace Tp
open St
abbrev G8:TCT A8:=grn 6000 0
theorem B97:Cd G8=0:=by decide +kernel
theorem Bbr:∀ n:Nat,1≤n→n≤4→groE (gN 6000 0 (0,0,()) n)=0
 | 1,_,_=>by decide +kernel
 | 2,_,_=>by decide +kernel
 | 3,_,_=>by decide +kernel
 | 4,_,_=>by decide +kernel
 | 0,h,_=>by omega
 | _+5,_,h=>by omega
theorem posts8:(Bc G8).all (fun d=>fpt d.1.1 d.1.2.1)=true:=by decide +kernel
def nr8 (p q:TCT cPt):Bool:=decide ((p.1-q.1)*(p.1-q.1)+(p.2.1-q.2.1)*(p.2.1-q.2.1)<34715664)
theorem Arn (p q:TCT cPt):nr8 p q=nr8 q p:=by
 unfold nr8
 have e:∀ a b c d:Int,(a-b)*(a-b)+(c-d)*(c-d)=(b-a)*(b-a)+(d-c)*(d-c):=fun a b c d=>by grind
 rw [e]
theorem iw8 {a b:Int} {c:TCT cPt} (hp:fpt a b=true) (hc:fpt c.1 c.2.1=true):iwD (a,b,()) (a,b,()) 2946 (Bd c)=nr8 (a,b,()) c:=by
 unfold iwD nr8
 show decide ((LsR a b a b c.1 c.2.1 (W64 (2946+2946))).1<0)=decide ((a-c.1)*(a-c.1)+(b-c.2.1)*(b-c.2.1)<34715664)
 rw [show W64 (2946+2946)=5892 by decide]
 have e:(LsR a b a b c.1 c.2.1 5892).1=((a-c.1)*(a-c.1)+(b-c.2.1)*(b-c.2.1)-34715664).sign:=by
  unfold LsR
  rw [hp,hc,show B6 5892 0 8388608=false by decide]
  show LsV a b a b c.1 c.2.1 5892=_
  unfold LsV
  have ea:alg a b a b c.1 c.2.1=0:=by unfold alg;rw [Int.sub_self,Int.sub_self,Int.zero_mul,Int.zero_mul];rfl
  rw [ea,decide_eq_true (Int.le_refl 0),cond_true]
  have es:sq a b c.1 c.2.1=(a-c.1)*(a-c.1)+(b-c.2.1)*(b-c.2.1):=by unfold sq;grind
  rw [es];rfl
 rw [e]
 refine decide_eq_decide.2 ?_
 rw [Int.sign_neg_iff]
 omega
theorem Aft {p:TCT cPt} (h:onB G8 p=true):fpt p.1 p.2.1=true:=by
 unfold onB at h
 rw [Bool.and_eq_true] at h
 have a:0≤p.1∧p.1≤100000:=Gp.1 h.1
 have b:0≤p.2.1∧p.2.1≤200000:=Gp.1 h.2
 have key:∀ x y:Int,(0≤x∧x≤100000)→(0≤y∧y≤200000)→fpt x y=true:=fun x y a b=>decide_eq_true (by omega)
 exact key _ _ a b
def A0k (p:TCT cPt):Bool:=onB G8 p&&!(Bc G8).any (iwD (p.1,p.2.1,()) (p.1,p.2.1,()) 2946)
theorem Afu {p:TCT A1→Bool}:∀ (l:List (TCT A1)) (i:Int),(((iwF p l i).length:Int)==0)=(!l.any p)
 | [],_=>rfl
 | d::l,i=>by
  show (((bif p d then i::iwF p l (i+1) else iwF p l (i+1)).length:Int)==0)=(!(p d||l.any p))
  cases p d with
  | true =>
   simp only [cond_true,Bool.true_or,Bool.not_true,List.length_cons]
   exact beq_eq_false_iff_ne.2 (by omega)
  | false =>
   simp only [cond_false,Bool.false_or]
   exact Afu l (i+1)
theorem B4q {p:TCT cPt} {ps:List (TCT cPt)} (hp:fpt p.1 p.2.1=true) (hps:∀ q ∈ ps,fpt q.1 q.2.1=true) (h4:ps.length≤4):mayE G8 p 2946 (ps.map Bd)=0∧mayB G8 p 2946 (ps.map Bd)=(A0k p&&!ps.any (nr8 p)):=by
 have hcb:cbE 2946 (ps.map Bd)=0:=by
  unfold cbE
  have a1:(ps.map Bd).any cbP=false:=by
   rw [List.any_eq_false]
   intro x hx
   obtain ⟨q,hq,rfl⟩:=List.mem_map.1 hx
   unfold cbP
   show ¬ (u_ck q.1 q.2.1 != 0||!St.inR 2946 1 16384)=true
   rw [V6,hps q hq,show St.inR 2946 1 16384=true by decide]
   decide
  rw [show St.inR 2946 1 16384=true by decide,a1,decide_eq_false (show ¬ ((ps.map Bd).length:Int)>12 by rw [List.length_map];omega)]
  rfl
 have he:J3 G8 p p 2946 (ps.map Bd)=0:=by
  unfold J3
  rw [B97]
  show (bif u_ck p.1 p.2.1 != 0 then 2 else bif u_ck p.1 p.2.1 != 0 then 2 else cbE 2946 (ps.map Bd):Int)=0
  rw [V6,hp,hcb];rfl
 refine ⟨he,?_⟩
 unfold mayB Ru
 rw [he]
 show (((iwF (iwD p p 2946) (Bc G8++ps.map Bd) 0).length:Int)==0&&onB G8 p)=_
 rw [Afu,List.any_append]
 have e:(ps.map Bd).any (iwD p p 2946)=ps.any (nr8 p):=by
  clear hcb he h4
  induction ps with
  | nil=>rfl
  | cons c ps ih =>
   simp only [List.map_cons,List.any_cons]
   rw [ih (fun q hq=>hps q (List.mem_cons_of_mem _ hq))]
   have:=iw8 (a:=p.1) (b:=p.2.1) hp (hps c (List.mem_cons_self ..))
   rw [show iwD p p 2946 (Bd c)=nr8 p c from this]
 rw [e]
 unfold A0k
 show (!((Bc G8).any (iwD p p 2946)||ps.any (nr8 p))&&onB G8 p)=(onB G8 p&&!(Bc G8).any (iwD p p 2946)&&!ps.any (nr8 p))
 cases (Bc G8).any (iwD p p 2946) <;> cases ps.any (nr8 p) <;> cases onB G8 p <;> rfl
theorem Aro (u r:Int):100*((u-r)*(u-r))≤101*(u*u)+10100*(r*r):=by
 have h:=Gu (u+100*r)
 grind
theorem Afv {r D:Int} (h1 : -D≤2*r) (h2:2*r≤D):4*(r*r)≤D*D:=by
 have hD:0≤D:=by omega
 have a:=By (a:=2*r) (b:=2*r) (A:=D) (B:=D) (by omega) h2 (by omega) h2
 have e:2*r*(2*r)=4*(r*r):=by grind
 omega
theorem Bbs {X Y D:Int} (hD:64≤D) (h:4096*(X*X+Y*Y)<(D+1)*(D+1)):DW (64*5894*X) D*DW (64*5894*X) D+DW (64*5894*Y) D*DW (64*5894*Y) D≤36500000:=by
 obtain ⟨a1,a2,a3⟩:=Aee (64*5894*X) D (by omega)
 obtain ⟨b1,b2,b3⟩:=Aee (64*5894*Y) D (by omega)
 generalize DW (64*5894*X) D=a at *
 generalize DW (64*5894*Y) D=b at *
 generalize DR (64*5894*X) D=r at *
 generalize DR (64*5894*Y) D=s at *
 have q1:=Aro (64*5894*X) r
 have q2:=Aro (64*5894*Y) s
 have c1:=Afv a2 (by omega)
 have c2:=Afv b2 (by omega)
 have e1:64*5894*X-r=a*D:=by omega
 have e2:64*5894*Y-s=b*D:=by omega
 rw [e1] at q1
 rw [e2] at q2
 have hDD:4096*((D+1)*(D+1))≤4225*(D*D):=by
  have:=By (a:=64*(D+1)) (b:=64*(D+1)) (A:=65*D) (B:=65*D) (by omega) (by omega) (by omega) (by omega)
  have e3:64*(D+1)*(64*(D+1))=4096*((D+1)*(D+1)):=by grind
  have e4:65*D*(65*D)=4225*(D*D):=by grind
  omega
 have p1:a*D*(a*D)=(a*a)*(D*D):=by grind
 have p2:b*D*(b*D)=(b*b)*(D*D):=by grind
 have p3:64*5894*X*(64*5894*X)=142291910656*(X*X):=by grind
 have p4:64*5894*Y*(64*5894*Y)=142291910656*(Y*Y):=by grind
 rw [p1,p3] at q1
 rw [p2,p4] at q2
 have hP:1≤D*D:=Mh (by omega)
 have key:(a*a+b*b)*(D*D)≤36500000*(D*D):=by
  rw [Int.add_mul]
  omega
 exact Int.le_of_mul_le_mul_right key (by omega)
end Tp
end V
end Go.Proofs.YtlangijnealfjaaGreat
namespace Go.Proofs.YtlangijnealfjaaGreat
open Go.RowKit
namespace V
namespace Tp
open St
def d28 (p q:TCT cPt):Int:=(p.1-q.1)*(p.1-q.1)+(p.2.1-q.2.1)*(p.2.1-q.2.1)
theorem Afw (a X:Int):(a-X)*(a-X)≤2*(a*a)+2*(X*X):=by
 have h:=Gu (a+X)
 grind
theorem B4r {px py qx qy:Int} (hp:fpt px py=true) (hq:fpt qx qy=true) (hn:(px-qx)*(px-qx)+(py-qy)*(py-qy)<34715664) (hne:¬ (px=qx∧py=qy)) (he:(TwR px py qx qy 5894).2=0) :
  ((TwR px py qx qy 5894).1.1-px)*((TwR px py qx qy 5894).1.1-px)+((TwR px py qx qy 5894).1.2-py)*((TwR px py qx qy 5894).1.2-py)≤144000000:=by
 have h0:sq px py qx qy=(px-qx)*(px-qx)+(py-qy)*(py-qy):=by unfold sq;grind
 have h1:1≤sq px py qx qy:=Aow hne
 obtain ⟨r0,r1,r2⟩:=Gt (sq px py qx qy*4096) (by omega)
 have hv:(TwR px py qx qy 5894).1=(ToX px qx (dTo px py qx qy) 5894,ToX py qy (dTo px py qx qy) 5894):=by
  unfold TwR at he ⊢
  rw [hp,hq,show B6 5894 0 4194304=false by decide] at he ⊢
  have e1:(px==qx&&py==qy)=false:=by
   rw [Bool.and_eq_false_iff,beq_eq_false_iff_ne,beq_eq_false_iff_ne]
   omega
  rw [e1] at he ⊢
  cases e2:fpt (ToX px qx (dTo px py qx qy) 5894) (ToX py qy (dTo px py qx qy) 5894) with
  | true=>rfl
  | false =>
   have e2:fpt (ToX px qx (dTo px py qx qy) 5894) (ToX py qy (dTo px py qx qy) 5894)=false:=e2
   rw [e2] at he;cases he
 rw [hv]
 show (qx+DW (64*5894*(px-qx)) (dTo px py qx qy)-px)*(qx+DW (64*5894*(px-qx)) (dTo px py qx qy)-px)+(qy+DW (64*5894*(py-qy)) (dTo px py qx qy)-py)*(qy+DW (64*5894*(py-qy)) (dTo px py qx qy)-py)≤144000000
 have hD:64≤dTo px py qx qy:=by
  unfold dTo
  rcases Int.lt_or_le (rt (sq px py qx qy*4096)) 64 with k | k
  ·have:=By (a:=rt (sq px py qx qy*4096)+1) (b:=rt (sq px py qx qy*4096)+1) (A:=64) (B:=64) (by omega) (by omega) (by omega) (by omega)
   omega
  ·exact k
 have ht:=Bbs (X:=px-qx) (Y:=py-qy) hD (by rw [← h0];unfold dTo;omega)
 generalize DW (64*5894*(px-qx)) (dTo px py qx qy)=a at *
 generalize DW (64*5894*(py-qy)) (dTo px py qx qy)=b at *
 rw [show qx+a-px=a-(px-qx) by omega,show qy+b-py=b-(py-qy) by omega]
 have k1:=Afw a (px-qx)
 have k2:=Afw b (py-qy)
 omega
theorem Arp {q:TCT cPt} {os:List (TCT A1)} (h:mayE G8 q 2946 os=0):fpt q.1 q.2.1=true:=by
 unfold mayE J3 at h
 rw [B97] at h
 have h:(bif u_ck q.1 q.2.1 != 0 then 2 else bif u_ck q.1 q.2.1 != 0 then 2 else cbE 2946 os:Int)=0:=h
 rw [V6] at h
 cases hf:fpt q.1 q.2.1 with
 | true=>rfl
 | false=>rw [hf] at h;cases h
theorem Bbt {s c:TCT cPt} (hs:fpt s.1 s.2.1=true) (hc:fpt c.1 c.2.1=true) (h:decide (S0 ((s.1,s.2.1,()),2946,()) (Bd c)≥0)=false):d28 s c<34715664:=by
 have h:=of_decide_eq_false h
 have k1:=G7 hs
 have k2:=G7 hc
 have b1:=By (a:=c.1-s.1) (b:=c.1-s.1) (A:=8388608) (B:=8388608) (by omega) (by omega) (by omega) (by omega)
 have b2:=By (a:=c.2.1-s.2.1) (b:=c.2.1-s.2.1) (A:=8388608) (B:=8388608) (by omega) (by omega) (by omega) (by omega)
 unfold S0 at h
 cases hk:cdE ((s.1,s.2.1,()),2946,())==0&&cdE (Bd c)==0 with
 | false=>rw [hk] at h;exact absurd (Int.le_refl 0) h
 | true =>
  rw [hk,cond_true] at h
  have e1:sqD ((s.1,s.2.1,()),2946,()) (Bd c)=d28 s c:=by
   unfold sqD d28
   show W64 (W64 (W64 (c.1-s.1)*W64 (c.1-s.1))+W64 (W64 (c.2.1-s.2.1)*W64 (c.2.1-s.2.1)))=_
   rw [B5 (n:=c.1-s.1) (by omega) (by omega),B5 (n:=c.2.1-s.2.1) (by omega) (by omega),B5 (n:=(c.1-s.1)*(c.1-s.1)) (by omega) (by omega),B5 (n:=(c.2.1-s.2.1)*(c.2.1-s.2.1)) (by omega) (by omega),B5 (n:=(c.1-s.1)*(c.1-s.1)+(c.2.1-s.2.1)*(c.2.1-s.2.1)) (by omega) (by omega)]
   have e:∀ a b c d:Int,(a-b)*(a-b)+(c-d)*(c-d)=(b-a)*(b-a)+(d-c)*(d-c):=fun a b c d=>by grind
   exact e _ _ _ _
  have e2:srD ((s.1,s.2.1,()),2946,()) (Bd c)=34715664:=by
   show W64 (W64 (2946+2946)*W64 (2946+2946))=_
   decide
  rw [e1,e2] at h
  unfold Al0 at h
  cases hd:decide (d28 s c<34715664) with
  | true=>exact of_decide_eq_true hd
  | false =>
   rw [hd,cond_false] at h
   cases hd2:decide (d28 s c>34715664) with
   | true=>rw [hd2] at h;exact absurd (by decide) h
   | false=>rw [hd2] at h;exact absurd (by decide) h
theorem Ayf {s c q:TCT cPt} (hs:fpt s.1 s.2.1=true) (hc:fpt c.1 c.2.1=true) (h:rpQ s 2946 (Bd c)=some q):d28 q s≤144000000:=by
 unfold rpQ at h
 cases h1:decide (S0 ((s.1,s.2.1,()),2946,()) (Bd c)≥0) with
 | true=>rw [h1] at h;cases h
 | false =>
  rw [h1,cond_false] at h
  have hd:=Bbt hs hc h1
  have aw:awR 2946 (Bd c)=5894:=by show W64 (W64 (2946+2946)+2)=5894;decide
  cases h2:!(s.1==(Bd c).1.1&&(s.2.1==(Bd c).1.2.1&&true)) with
  | true =>
   rw [h2,cond_true,aw] at h
   have hne:¬ (s.1=c.1∧s.2.1=c.2.1):=fun e=>by
    have:(s.1==c.1&&(s.2.1==c.2.1&&true))=true:=by rw [e.1,e.2,beq_self_eq_true,beq_self_eq_true];rfl
    rw [show (s.1==(Bd c).1.1&&(s.2.1==(Bd c).1.2.1&&true))=true from this] at h2
    cases h2
   cases h3:(TwR s.1 s.2.1 c.1 c.2.1 5894).2 != 0 with
   | true=>rw [show ((TwR s.1 s.2.1 (Bd c).1.1 (Bd c).1.2.1 5894).2 != 0)=true from h3] at h;cases h
   | false =>
    rw [show ((TwR s.1 s.2.1 (Bd c).1.1 (Bd c).1.2.1 5894).2 != 0)=false from h3] at h
    unfold twP at h
    rw [aw] at h
    cases h
    exact B4r hs hc hd hne (bne_eq_false_iff_eq.1 h3)
  | false =>
   rw [h2,cond_false,aw] at h
   have he:(s.1==c.1&&(s.2.1==c.2.1&&true))=true:=by
    cases e:(s.1==c.1&&(s.2.1==c.2.1&&true)) with
    | true=>rfl
    | false=>rw [show (s.1==(Bd c).1.1&&(s.2.1==(Bd c).1.2.1&&true))=false from e] at h2;cases h2
   rw [Bool.and_eq_true,Bool.and_eq_true,beq_iff_eq,beq_iff_eq] at he
   cases h
   have k2:=G7 hc
   have e1:W64 (c.1+5894)=c.1+5894:=B5 (by omega) (by omega)
   show (W64 (c.1+5894)-s.1)*(W64 (c.1+5894)-s.1)+(c.2.1-s.2.1)*(c.2.1-s.2.1)≤144000000
   have key:∀ x y:Int,(x+5894-x)*(x+5894-x)+(y-y)*(y-y)≤144000000:=fun x y=>by
    rw [show x+5894-x=5894 by omega,Int.sub_self];decide
   rw [e1,he.1,he.2.1]
   exact key _ _
theorem Arq {s:TCT cPt} (hs:fpt s.1 s.2.1=true) {os:List (TCT A1)} {q:TCT cPt}:∀ (ps:List (TCT cPt)),(∀ c ∈ ps,fpt c.1 c.2.1=true)→rpS G8 s 2946 os (ps.map Bd)=some q→d28 q s≤144000000∧mayB G8 q 2946 os=true∧mayE G8 q 2946 os=0
 | [],_,h=>by cases h
 | c::ps,hc,h=>by
  have h:(match rpF G8 s 2946 os (Bd c) with | some q=>some q | none=>rpS G8 s 2946 os (ps.map Bd))=some q:=h
  cases h1:rpF G8 s 2946 os (Bd c) with
  | none=>rw [h1] at h;exact Arq hs ps (fun c hq=>hc c (List.mem_cons_of_mem _ hq)) h
  | some q' =>
   rw [h1] at h
   cases h
   unfold rpF at h1
   cases h2:rpQ s 2946 (Bd c) with
   | none=>rw [h2] at h1;cases h1
   | some q2 =>
    rw [h2] at h1
    cases h3:mayB G8 q2 2946 os&&mayE G8 q2 2946 os==0 with
    | false=>simp only [h3] at h1;cases h1
    | true =>
     simp only [h3,cond_true] at h1
     cases h1
     rw [Bool.and_eq_true,beq_iff_eq] at h3
     exact ⟨Ayf hs (hc c (List.mem_cons_self ..)) h2,h3.1,h3.2⟩
theorem rp8 {s:TCT cPt} {ps:List (TCT cPt)} (hs:fpt s.1 s.2.1=true) (hps:∀ c ∈ ps,fpt c.1 c.2.1=true) (h4:ps.length≤4):(Jj G8 s 2946 (ps.map Bd)).2=15∨((Jj G8 s 2946 (ps.map Bd)).2=0∧A0k (Jj G8 s 2946 (ps.map Bd)).1=true∧ps.any (nr8 (Jj G8 s 2946 (ps.map Bd)).1)=false∧d28 (Jj G8 s 2946 (ps.map Bd)).1 s≤144000000):=by
 have m:=B4q hs hps h4
 show Ac9 G8 s 2946 (ps.map Bd)=15∨(Ac9 G8 s 2946 (ps.map Bd)=0∧A0k (A0i G8 s 2946 (ps.map Bd))=true∧ps.any (nr8 (A0i G8 s 2946 (ps.map Bd)))=false∧d28 (A0i G8 s 2946 (ps.map Bd)) s≤144000000)
 unfold Ac9 A0i
 rw [m.1]
 simp only [bne_self_eq_false,cond_false]
 have two:∀ {q:TCT cPt},fpt q.1 q.2.1=true→mayB G8 q 2946 (ps.map Bd)=true→A0k q=true∧ps.any (nr8 q)=false:=fun {q} hq hm=>by
  rw [(B4q hq hps h4).2,Bool.and_eq_true] at hm
  exact ⟨hm.1,by simpa using hm.2⟩
 cases hb:mayB G8 s 2946 (ps.map Bd) with
 | true =>
  obtain ⟨a,b⟩:=two hs hb
  refine .inr ⟨rfl,a,b,?_⟩
  show (s.1-s.1)*(s.1-s.1)+(s.2.1-s.2.1)*(s.2.1-s.2.1)≤144000000
  rw [Int.sub_self,Int.sub_self];decide
 | false =>
  simp only [cond_false]
  cases hq:rpS G8 s 2946 (ps.map Bd) (ps.map Bd) with
  | none=>exact .inl rfl
  | some q =>
   obtain ⟨a,b,c⟩:=Arq hs ps hps hq
   obtain ⟨x,y⟩:=two (Arp c) b
   exact .inr ⟨rfl,x,y,a⟩
end Tp
end V
end Go.Proofs.YtlangijnealfjaaGreat
namespace Go.Proofs.YtlangijnealfjaaGreat
open Go.RowKit
namespace V
namespace Tp
open St
theorem Ars {x y:Int} (hx:0≤x∧x≤65535) (hy:0≤y∧y≤65535):fpt (W64 (Int.tdiv (W64 (W64 x*3)) 2)) (W64 (W64 y*3))=true:=by
 rw [B5 (n:=x) (by omega) (by omega),B5 (n:=y) (by omega) (by omega),B5 (n:=x*3) (by omega) (by omega),B5 (n:=y*3) (by omega) (by omega),Int.tdiv_eq_ediv_of_nonneg (by omega),B5 (n:=x*3 / 2) (by omega) (by omega)]
 exact decide_eq_true (by omega)
theorem B4s {d:TCT Bz} (h:WFD Bz d):fpt (spt d).1 (spt d).2.1=true:=Ars h.1 h.2.1
theorem Ayg {l:List (TCT Bz)} (hw:WFD (.sl Bz) l) {i:Nat} (hi:i<l.length):fpt (spt (Al l i (Ak Bz))).1 (spt (Al l i (Ak Bz))).2.1=true:=B4s (hw.2 _ (Ck hi _))
structure Gd8 (ps:List (TCT cPt)):Prop where
 on:∀ c ∈ ps,A0k c=true
 sep:∀ i j:Nat,i<j→j<ps.length→nr8 (Al ps j (Ak cPt)) (Al ps i (Ak cPt))=false
theorem Acf {p:TCT cPt} (h:A0k p=true):onB G8 p=true:=by
 unfold A0k at h
 rw [Bool.and_eq_true] at h
 exact h.1
theorem Gd8.fp {ps:List (TCT cPt)} (h:Gd8 ps):∀ c ∈ ps,fpt c.1 c.2.1=true:=fun c hc=>Aft (Acf (h.on c hc))
theorem Tk {α:Type} {a:List α} {b:List α} {d:α} {i:Nat} (h:i<a.length):Al (a++b) i d=Al a i d:=by
 rw [Cf,Cf,List.getD_eq_getElem?_getD,List.getD_eq_getElem?_getD,List.getElem?_append_left h]
theorem Acg {α:Type} {a:List α} {x d:α}:Al (a++[x]) a.length d=x:=by
 rw [Cf,List.getD_eq_getElem?_getD,List.getElem?_append_right (Nat.le_refl _),Nat.sub_self];rfl
theorem Gd8.snoc {ps:List (TCT cPt)} {p:TCT cPt} (h:Gd8 ps) (hp:A0k p=true) (hn:ps.any (nr8 p)=false):Gd8 (ps++[p]):=by
 refine ⟨fun c hc=>?_,fun i j hi hj=>?_⟩
 ·rcases List.mem_append.1 hc with k | k
  ·exact h.on c k
  ·rw [List.mem_singleton.1 k];exact hp
 ·rw [List.length_append,List.length_singleton] at hj
  by_cases hl:j<ps.length
  ·rw [Tk hl,Tk (by omega)]
   exact h.sep i j hi hl
  ·have e:j=ps.length:=by omega
   subst e
   rw [Acg,Tk hi]
   have:=List.any_eq_false.1 hn _ (Ck hi (Ak cPt))
   simpa using this
theorem Aiw {ps:List (TCT cPt)} {p:TCT cPt}:ps.map Bd++[Bd p]=(ps++[p]).map Bd:=by rw [List.map_append];rfl
abbrev gb8:GbT:=gb0 6000 0 (0,0,())
theorem Art:((lwb (gbN gb8 0)).1.size:Int)≤B0 .i64:=Px 6000 0
theorem B4t {p s:TCT cPt}:sq p.1 p.2.1 s.1 s.2.1=d28 p s:=by unfold sq d28;grind
theorem Afx {l:List (TCT Bz)} {i:Nat} {ps:List (TCT cPt)} (hi:i<l.length) {o:Option Aiu} (ho:(A8x Kx l (gbN gb8 i) ps (ps.map Bd) (i:Int) (spt (Al l i (Ak Bz))) (Jj G8 (spt (Al l i (Ak Bz))) 2946 (ps.map Bd))).run=o) :
  (Pq Jj Kx (Ng l (gbN gb8 i) ps (ps.map Bd) (i:Int))).run=o:=by
 show (Zm Jj Kx l (gbN gb8 i) ps (ps.map Bd) (i:Int)).run=_
 unfold Zm
 rw [decide_eq_true (show (i:Int)<(l.length:Int) by omega),cond_true,Ea (by omega),Ea (by omega),show Int.toNat (i:Int)=i by omega,show Ait (lwb (gbN gb8 i))=true from decide_eq_true Art]
 exact ho
theorem Bbu (i:Nat):wbl (gbN gb8 i) (blb (gbN gb8 i)++[K5])=gbN gb8 (i+1):=by
 show wbl gb8 (List.replicate i K5++[K5])=wbl gb8 (List.replicate (i+1) K5)
 rw [List.replicate_succ']
theorem Aix {l:List (TCT Bz)} {i:Nat} {ps:List (TCT cPt)} {p:TCT cPt} (hi:i<10) (hl:ps.length=i):(Aca l (gbN gb8 i) ps (ps.map Bd) (i:Int) p).run=some (.inl (Ng l (gbN gb8 (i+1)) (ps++[p]) ((ps++[p]).map Bd) ((i+1:Nat):Int))):=by
 unfold Aca
 have e1:D4 (blb (gbN gb8 i)) [K5] 16=true:=H9 (by show (List.replicate i K5).length+1≤_;rw [List.length_replicate];omega) (by decide)
 rw [e1,Bbu i,H9 (by rw [List.length_singleton];omega) (by decide),H9 (by rw [List.length_singleton,List.length_map];omega) (by decide),B5 (n:=(i:Int)+1) (by omega) (by omega)]
 show some (Sum.inl (Ng l (gbN gb8 (i+1)) (ps++[p]) (ps.map Bd++[Bd p]) ((i:Int)+1)))=_
 rw [Aiw];rfl
theorem Aru {l:List (TCT Bz)} {i:Nat} {ps:List (TCT cPt)} {s:TCT cPt} {r:TCT cPt×Int} (hi:i<l.length) (h4:l.length≤4) (hl:ps.length=i) (hs:fpt s.1 s.2.1=true) (e:r.2=0) (ok:A0k r.1=true) (far:d28 r.1 s≤144000000) :
  (A8x Kx l (gbN gb8 i) ps (ps.map Bd) (i:Int) s r).run=some (.inl (Ng l (gbN gb8 (i+1)) (ps++[r.1]) ((ps++[r.1]).map Bd) ((i+1:Nat):Int))):=by
 have fr:fpt r.1.1 r.1.2.1=true:=Aft (Acf ok)
 have sv:Kx (r.1.1,r.1.2.1,()) s=(d28 r.1 s,0):=by
  show SqR r.1.1 r.1.2.1 s.1 s.2.1=_
  unfold SqR
  rw [fr,hs,B4t];rfl
 unfold A8x
 rw [e,sv]
 simp only [bne_self_eq_false,cond_false]
 rw [Ea (by omega)]
 unfold Azz
 rw [decide_eq_false (show ¬ d28 r.1 s>144000000 by omega)]
 simp only [bne_self_eq_false,cond_false]
 exact Aix (p:=r.1) (by omega) hl
theorem Arv {l:List (TCT Bz)} (hw:WFD (.sl Bz) l) (h4:l.length≤4):∀ (k i m:Nat) (ps:List (TCT cPt)),i+k=l.length→k+1≤m→ps.length=i→Gd8 ps →
  ∃ out,iter (Pq Jj Kx) m (Ng l (gbN gb8 i) ps (ps.map Bd) (i:Int))=some out∧(out=rt_ld0 true∨∃ qs:List (TCT cPt),qs.length=l.length∧Gd8 qs∧out=Arf l (gbN gb8 l.length) qs (qs.map Bd))
 | k,i,0,ps,_,hm,_,_=>by omega
 | 0,i,m+1,ps,hk,_,hl,hg=>by
  have e:i=l.length:=by omega
  subst e
  refine ⟨_,Gy ?_,.inr ⟨ps,hl,hg,rfl⟩⟩
  show (Zm Jj Kx l (gbN gb8 l.length) ps (ps.map Bd) (l.length:Int)).run=_
  unfold Zm
  rw [decide_eq_false (Int.lt_irrefl _)]
  rfl
 | k+1,i,m+1,ps,hk,hm,hl,hg=>by
  have hi:i<l.length:=by omega
  have hs:=Ayg hw hi
  have rp:=rp8 hs hg.fp (by omega)
  rcases rp with e | ⟨e,ok,nn,far⟩
  ·refine ⟨_,Gy (Afx hi ?_),.inl rfl⟩
   unfold A8x
   rw [e];rfl
  ·obtain ⟨out,a,b⟩:=Arv hw h4 k (i+1) m _ (by omega) (by omega) (by rw [List.length_append,List.length_singleton];omega) (hg.snoc ok nn)
   exact ⟨out,(O6 (Afx hi (Aru hi h4 hl hs e ok far))).trans a,b⟩
end Tp
end V
end Go.Proofs.YtlangijnealfjaaGreat
