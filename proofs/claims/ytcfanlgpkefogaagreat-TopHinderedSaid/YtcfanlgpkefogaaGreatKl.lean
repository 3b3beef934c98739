import Derived.Test.YtcfanlgpkefogaaGreatKf
import Derived.Test.YtcfanlgpkefogaaGreatAj
import Derived.Test.YtcfanlgpkefogaaGreatAx
import Derived.Test.YtcfanlgpkefogaaGreatNd
namespace Go.Proofs.YtcfanlgpkefogaaGreat
open Go.RowKit
namespace V
namespace Tp
open St
theorem C1o {p:TCT Baf→Bool}:∀ (l:List (TCT Baf)) (i:Int) (j:Nat),j<l.length→p (Bam l j (Baj Baf))=true→(i+(j:Int)) ∈ iwF p l i
 | [],_,j,h,_=>absurd h (Nat.not_lt_zero j)
 | d::l,i,0,_,h=>by
  have h:p d=true:=h
  unfold iwF
  rw [h,cond_true,show i+((0:Nat):Int)=i by omega]
  exact List.mem_cons_self
 | d::l,i,j+1,h1,h=>by
  have h:p (Bam l j (Baj Baf))=true:=h
  have:=C1o l (i+1) j (by simpa using h1) h
  rw [show i+1+(j:Int)=i+((j+1:Nat):Int) by omega] at this
  unfold iwF
  cases p d with
  | true=>exact List.mem_cons_of_mem _ this
  | false=>exact this
theorem Cf2 {p:TCT Baf→Bool}:∀ (l:List (TCT Baf)) (i:Int),(iwF p l i).length≤l.length
 | [],_=>Nat.le_refl _
 | d::l,i=>by
  have:=Cf2 (p:=p) l (i+1)
  unfold iwF
  cases p d with
  | true=>simp only [cond_true,List.length_cons];omega
  | false=>simp only [cond_false,List.length_cons];omega
theorem Cqt {is:List Int} {k:SKTs C8i} {w:Int}:∀ (n j m:Nat) (f:Bool),j+n=is.length→is.length≤100000→n+1≤m→iter Bi2 m (Bj7 is k w f (j:Int))=some (C8l k (f||(is.drop j).any (fun x=>x==w)))
 | n,j,0,f,_,_,hm=>by omega
 | 0,j,m+1,f,h,_,_=>by
  refine (Bep (e:=C8l k f) ?_).trans ?_
  ·show (Btr is k w f (j:Int)).run=_
   unfold Btr
   rw [decide_eq_false (show ¬ (j:Int)<(is.length:Int) by omega)]
   rfl
  ·rw [List.drop_eq_nil_of_le (by omega),List.any_nil,Bool.or_false]
 | n+1,j,m+1,f,h,hl,hm=>by
  have hj:j<is.length:=by omega
  have e:=Cqt (is:=is) (k:=k) (w:=w) n (j+1) m (f||is[j]==w) (by omega) hl (by omega)
  have e2:(is.drop j).any (fun x=>x==w)=(is[j]==w||(is.drop (j+1)).any (fun x=>x==w)):=by
   rw [List.drop_eq_getElem_cons hj,List.any_cons]
  rw [e2,← Bool.or_assoc,← e]
  refine Bkt ?_
  show (Btr is k w f (j:Int)).run=_
  unfold Btr
  rw [decide_eq_true (show (j:Int)<(is.length:Int) by omega),cond_true,Bb4 (n:=(j:Int)+1) (by omega) (by omega)]
  cases f with
  | true=>rfl
  | false =>
   rw [cond_false,Bd0 (by omega),show Int.toNat (j:Int)=j by omega,Bby hj,Bool.false_or]
   rfl
theorem C5m {is:List Int} {k:SKTs C8i} {w:Int} (hl:is.length≤100000) (hw:w ∈ is) (hk:k.2.2.2.1=0):Btt (iter Bi2 (is.length+1) (Bj7 is k w false 0))=.leaf (.inr (Blb true)):=by
 have e:=Cqt (is:=is) (k:=k) (w:=w) is.length 0 (is.length+1) false (by omega) hl (by omega)
 rw [show ((0:Nat):Int)=0 from rfl] at e
 have a:(is.any fun x=>x==w)=true:=List.any_eq_true.2 ⟨w,hw,beq_self_eq_true w⟩
 rw [e,List.drop_zero,a]
 show (bif k.2.2.2.1==0 then _ else _:C8n)=_
 rw [hk]
 rfl
def Cyu (ps:List (TCT Baf)) (is:List Int) (k:TCT cKn):Prop:=k.2.2.2.1=0∧((k.2.2.1=0∧W64 (W64 ((ps.length:Int)+k.2.2.2.2.1)-1) ∈ is)∨(k.2.2.1=1∧k.2.2.2.2.1 ∈ is))
theorem Cqu {is:List Int} {ps:List (TCT Baf)} (hl:is.length≤100000):∀ (ks A:Kns) (B:Kns) (m:Nat),ks=A++B→ks.length≤200000→B.length+1≤m→(AO B∨∃ (C:Kns) (k:TCT cKn) (D:Kns),B=C++k::D∧AO C∧Cyu ps is k)→∃ y,iter Bk1 m (Bla ks is ps (A.length:Int))=some y∧(y=Blb true∨y=Bts)
 | ks,A,B,0,_,_,hm,_=>by omega
 | ks,A,[],m+1,h,_,_,_=>by
  refine ⟨Bts,Bep ?_,.inr rfl⟩
  show (Btu ks is ps (A.length:Int)).run=_
  unfold Btu
  rw [decide_eq_false (show ¬ (A.length:Int)<(ks.length:Int) by rw [h,List.append_nil];omega)]
  rfl
 | ks,A,x::B,m+1,h,h2,hm,q=>by
  have hlen:ks.length=A.length+(B.length+1):=by rw [h,List.length_append,List.length_cons]
  have ex:kx5 ks (A.length:Int)=x:=by
   unfold kx5
   rw [show Int.toNat (A.length:Int)=A.length by omega,Bby (by omega)]
   subst h
   rw [List.getElem_append_right (Nat.le_refl _)]
   simp
  have go:(Bk1 (Bla ks is ps (A.length:Int))).run=(bif x.2.2.1==2 then .leaf (.inl (Bla ks is ps (W64 ((A.length:Int)+1)))) else
 bif x.2.2.1==0 then Btt (iter Bi2 (is.length+1) (Bj7 is x (W64 (W64 ((ps.length:Int)+x.2.2.2.2.1)-1)) false 0)) else Btt (iter Bi2 (is.length+1) (Bj7 is x x.2.2.2.2.1 false 0)):C8n).run:=by
   show (Btu ks is ps (A.length:Int)).run=_
   unfold Btu
   rw [decide_eq_true (show (A.length:Int)<(ks.length:Int) by omega),cond_true,Be6 (by omega),ex]
  have next:x.2.2.1=2→(AO B∨∃ (C:Kns) (k:TCT cKn) (D:Kns),B=C++k::D∧AO C∧Cyu ps is k)→∃ y,iter Bk1 (m+1) (Bla ks is ps (A.length:Int))=some y∧(y=Blb true∨y=Bts):=fun e2 q2=>by
   have hm:B.length+1+1≤m+1:=hm
   obtain ⟨y,e3,e4⟩:=Cqu hl ks (A++[x]) B m (by rw [h,List.append_assoc];rfl) h2 (by omega) q2
   refine ⟨y,(Bkt ?_).trans e3,e4⟩
   rw [go,e2]
   show some (Sum.inl (Bla ks is ps (W64 ((A.length:Int)+1))))=_
   rw [Bb4 (n:=(A.length:Int)+1) (by omega) (by omega),List.length_append,List.length_singleton]
   rfl
  rcases q with q | ⟨C,k,D,e1,e2,e3⟩
  ·exact next (q x List.mem_cons_self) (.inl fun y hy=>q y (List.mem_cons_of_mem _ hy))
  ·cases C with
   | cons c C =>
    have e1:x::B=c::(C++k::D):=e1
    cases e1
    exact next (e2 x List.mem_cons_self) (.inr ⟨C,k,D,rfl,fun y hy=>e2 y (List.mem_cons_of_mem _ hy),e3⟩)
   | nil =>
    have e1:x::B=k::D:=e1
    cases e1
    refine ⟨Blb true,Bep ?_,.inl rfl⟩
    rw [go]
    obtain ⟨z,f | f⟩:=e3
    ·rw [f.1]
     show (Btt (iter Bi2 (is.length+1) (Bj7 is x (W64 (W64 ((ps.length:Int)+x.2.2.2.2.1)-1)) false 0)):C8n).run=_
     rw [C5m hl f.2 z]
     rfl
    ·rw [f.1]
     show (Btt (iter Bi2 (is.length+1) (Bj7 is x x.2.2.2.2.1 false 0)):C8n).run=_
     rw [C5m hl f.2 z]
     rfl
end Tp
end V
end Go.Proofs.YtcfanlgpkefogaaGreat
namespace Go.Proofs.YtcfanlgpkefogaaGreat
open Go.RowKit
namespace V
namespace Tp
open St
theorem D6t {g:TCT cGr} {p:List (TCT cPt)} (h:(Beq g p).2.1=0):∀ j:Nat,j<p.length→Bag (msT (Beq g p).1) j=C12 (Bam p j (Baj cPt)):=by
 unfold Beq at h ⊢
 cases h1:groE g != 0 with
 | true=>rw [h1] at h;exact absurd h (bne_iff_ne.1 h1)
 | false =>
  rw [h1] at h
  simp only [cond_false] at h ⊢
  cases h2:C14 p.length (V2 g).length with
  | true=>rw [h2] at h;cases h
  | false =>
   rw [h2] at h
   simp only [cond_false] at h ⊢
   cases h3:Bap (f_li g.1 p) 0 p.length [] with
   | inr e=>rw [h3] at h;cases h
   | inl ms=>exact fun j hj=>((Cf9 h3).g j hj).1
theorem Cyv {d s:Int} {l:List (TCT Bbk)} {ps:List (TCT cPt)} (h:Bn6 d s l=.inl ps):ps.length=l.length∧∀ j:Nat,j<l.length→Bam ps j (Baj cPt)=spt (Bam l j (Baj Bbk)) :=
 Bay (n:=l.length) (Inv:=fun i (p:List (TCT cPt))=>p.length=i∧∀ j:Nat,j<i→Bam p j (Baj cPt)=spt (Bam l j (Baj Bbk))) (fun i p p' hi q e=>by
  unfold setF at e
  cases e1:C35 (grn d s) (spt (Bam l i (Baj Bbk))) 2946 (p.map Bg8)!=0 with
  | true=>rw [e1] at e;cases e
  | false =>
   rw [e1] at e
   cases e2:!C36 (grn d s) (spt (Bam l i (Baj Bbk))) 2946 (p.map Bg8) with
   | true=>rw [e2] at e;cases e
   | false =>
    rw [e2] at e
    cases e
    obtain ⟨a,b⟩:=q
    refine ⟨by rw [List.length_append,List.length_singleton,a],fun j hj=>?_⟩
    rw [Bej (by omega)]
    by_cases e:j=p.length
    ·rw [if_pos e,e,a]
    ·rw [if_neg e];exact b j (by omega)) l.length 0 [] ps (by omega) ⟨rfl,fun j hj=>absurd hj (Nat.not_lt_zero j)⟩ h
theorem D6u {d s:Int} {x:TCT Bbv} {l:List (TCT Bbk)} (h:Bfu d s x l=true):∀ j:Nat,j<l.length→Bag (msT (Bf5 d s x l)) j=C12 (spt (Bam l j (Baj Bbk))):=by
 obtain ⟨ps,ho,he,_⟩:=Cl2 h
 obtain ⟨a,b⟩:=Cyv ho
 intro j hj
 unfold Bf5
 rw [ho]
 show Bag (msT (Beq (gN d s x ps.length) ps).1) j=_
 rw [D6t he j (by omega),b j hj]
theorem Cqv {px py qx qy l:Int} (h:(TwR px py qx qy l).2=0):(fpt px py=true∧fpt qx qy=true)∧¬ (px=qx∧py=qy)∧(TwR px py qx qy l).1=(ToX px qx (dTo px py qx qy) l,ToX py qy (dTo px py qx qy) l)∧fpt (ToX px qx (dTo px py qx qy) l) (ToX py qy (dTo px py qx qy) l)=true:=by
 unfold TwR at h ⊢
 cases h1:fpt px py&&fpt qx qy with
 | false=>rw [h1] at h;cases h
 | true =>
  rw [h1] at h
  simp only [cond_true] at h ⊢
  cases h2:Bb8 l 0 4194304 with
  | true=>rw [h2] at h;cases h
  | false =>
   rw [h2] at h
   simp only [cond_false] at h ⊢
   cases h3:px==qx&&py==qy with
   | true=>rw [h3] at h;cases h
   | false =>
    rw [h3] at h
    simp only [cond_false] at h ⊢
    cases h4:fpt (ToX px qx (dTo px py qx qy) l) (ToX py qy (dTo px py qx qy) l) with
    | false=>rw [h4] at h;cases h
    | true =>
     rw [Bool.and_eq_true] at h1
     refine ⟨h1,fun e=>?_,rfl,rfl⟩
     rw [e.1,e.2,beq_self_eq_true,beq_self_eq_true] at h3
     cases h3
theorem D6v {px py qx qy l:Int} (h1:fpt px py=true) (h2:fpt qx qy=true) (h3:¬ (px=qx∧py=qy)) (h4:0≤l∧l≤4194304) (h:(TwR px py qx qy l).2≠0):(TwR px py qx qy l).2=4:=by
 have ho:Bb8 l 0 4194304=false:=by
  unfold Bb8
  rw [decide_eq_false (show ¬ l<0 by omega),decide_eq_false (show ¬ 4194304<l by omega)];rfl
 have hn:(px==qx&&py==qy)=false:=by
  cases e:px==qx&&py==qy with
  | false=>rfl
  | true =>
   rw [Bool.and_eq_true,beq_iff_eq,beq_iff_eq] at e
   exact absurd e h3
 unfold TwR at h ⊢
 rw [h1,h2,ho,hn] at h ⊢
 simp only [Bool.and_self,cond_true,cond_false] at h ⊢
 cases h4:fpt (ToX px qx (dTo px py qx qy) l) (ToX py qy (dTo px py qx qy) l) with
 | true=>rw [h4] at h;exact absurd rfl h
 | false=>rfl
theorem Cf3 {a:Int} {n:Nat} (h0:0≤a) (h:a+((n+1:Nat):Int)≤4000):W64 (a+1)=a+1∧0≤a+1∧a+1+(n:Int)≤4000∧a≠4000:=⟨Bb4 (by omega) (by omega),by omega,by omega,by omega⟩
theorem Cqw {g:TCT cGr}:∀ (n:Nat) (s:TCT cSt) (ks:Kns) (e:Int),StaOk g s→0≤s.2.2.2.2.1→s.2.2.2.2.1+(n:Int)≤4000→rnS g n s ks=.inr e→e=4∨e=6
 | 0,s,ks,e,_,_,_,h=>by
  rw [Bv4] at h
  cases h1:decide ((ks.length:Int)>4096) with
  | true=>rw [h1] at h;cases h;exact .inr rfl
  | false=>rw [h1] at h;cases h
 | n+1,s,ks,e,q,t0,t1,h=>by
  rw [Bv5] at h
  cases h1:decide ((ks.length:Int)>4096) with
  | true=>rw [h1] at h;cases h;exact .inr rfl
  | false =>
   rw [h1,cond_false] at h
   cases h2:Bcc s with
   | true=>rw [h2] at h;cases h
   | false =>
    rw [h2] at h
    simp only [Bool.not_false,cond_true] at h
    cases h3:tkF (ctS g s) (msT s,osT s,ks) with
    | inl r =>
     rw [h3] at h
     obtain ⟨w,w1,w2,_⟩:=Cf3 t0 t1
     have w:(nxS s r).2.2.2.2.1=s.2.2.2.2.1+1:=w
     exact Cqw n (nxS s r) r.2.2 e (Bv3 q h3) (by rw [w];exact w1) (by rw [w];exact w2) h
    | inr x =>
     rw [h3] at h
     cases h
     rw [D6a] at h3
     cases h4:tkF (ctS g s) (msT s,osT s,[]) with
     | inl r=>rw [h4] at h3;cases h3
     | inr y =>
      rw [h4] at h3
      cases h3
      exact .inl (C5q q (Cf3 t0 t1).2.2.2 h4)
def oth (l:List (TCT Bbk)) (i:Nat):List (TCT Baf):=(l.drop i).map fun d=>Bg8 (spt d)
theorem Cqx {q:QTh} (hl:q.l.length≤1000):∀ (n i m:Nat) (os:List (TCT Baf)),i+n=q.l.length→os.length+n≤1000→n+1≤m→iter Bqg m (C0e q os (i:Int))=some (C8j q (os++oth q.l i))
 | n,i,0,os,_,_,hm=>by omega
 | 0,i,m+1,os,h,_,_=>by
  refine (Bep (e:=C8j q os) ?_).trans ?_
  ·show (Btq q os (i:Int)).run=_
   unfold Btq
   rw [decide_eq_false (show ¬ (i:Int)<(q.l.length:Int) by omega)]
   rfl
  ·unfold oth
   rw [List.drop_eq_nil_of_le (by omega),List.map_nil,List.append_nil]
 | n+1,i,m+1,os,h,ho,hm=>by
  have hi:i<q.l.length:=by omega
  have e:=Cqx (q:=q) hl n (i+1) m (os++[Bg8 (spt q.l[i])]) (by omega) (by rw [List.length_append,List.length_singleton];omega) (by omega)
  have e2:oth q.l i=Bg8 (spt q.l[i])::oth q.l (i+1):=by
   unfold oth
   rw [List.drop_eq_getElem_cons hi,List.map_cons]
  rw [e2,show os++Bg8 (spt q.l[i])::oth q.l (i+1)=(os++[Bg8 (spt q.l[i])])++oth q.l (i+1) by rw [List.append_assoc];rfl,← e]
  refine Bkt ?_
  show (Btq q os (i:Int)).run=_
  unfold Btq
  rw [decide_eq_true (show (i:Int)<(q.l.length:Int) by omega),cond_true,Bd0 (by omega),show Int.toNat (i:Int)=i by omega,Bby hi,Bi7 (by rw [List.length_singleton];omega) (by decide),Bb4 (n:=(i:Int)+1) (by omega) (by omega)]
  rfl
end Tp
end V
end Go.Proofs.YtcfanlgpkefogaaGreat
namespace Go.Proofs.YtcfanlgpkefogaaGreat
open Go.RowKit
namespace V
namespace Tp
open St
def plS (l:List (TCT Bbk)) (j:Nat):TCT cPt:=((spt (Bam l j (Baj Bbk))).1,(spt (Bam l j (Baj Bbk))).2.1,())
def Bv8 (g:TCT cGr) (l:List (TCT Bbk)) (x y P d C:Int):HC:=⟨x,y,DW (64*P*x) d,DW (64*P*y) d,(a05 l).1,(a05 l).2.1,V2 g,plS l,postsV g.1,g.1,C⟩
def Bjb (P n:Int):Int:=40+n*((P+2) / 1800+17)
structure BlH (x y P d n:Int):Prop where
 hQ:0<x*x+y*y
 hd:1≤d
 hd2:d*d≤4096*(x*x+y*y)
 hP:0≤P
 hn:0≤n∧n≤40
theorem Cf4 {g:TCT cGr} {l:List (TCT Bbk)} {x y P d n:Int} (b:BlH x y P d n) {a t:TCT cPt} {D:TCT Baf} (ha:a.1=(a05 l).1∧a.2.1=(a05 l).2.1) (ht:t.1=(a05 l).1+DW (64*Bjb P n*x) d∧t.2.1=(a05 l).2.1+DW (64*Bjb P n*y) d) (f1:fpt a.1 a.2.1=true) (f2:fpt t.1 t.2.1=true) (f3:fpt D.1.1 D.1.2.1=true) {R:Int} (eR:D.2.1=R) (hr:1≤R∧R≤8192) (nr:Cyl (Bv8 g l x y P d (16*n)) D.1.1 D.1.2.1 (2946+R)):iwD a t 2952 D=true:=by
 obtain ⟨px,py,rx,ry,⟨c,c0,c1,z,r1,r2⟩,hs⟩:=nr
 have key:=Cyk b.hQ b.hd b.hd2 b.hP b.hn c0 c1 z r1 r2 (show 0≤2946+R by omega) hs
 unfold iwD LsR
 rw [f1,f2,f3,eR,Bb4 (n:=2952+R) (by omega) (by omega),ha.1,ha.2,ht.1,ht.2,show (Bb8 (2952+R) 0 8388608)=false by unfold Bb8;rw [decide_eq_false (show ¬ 2952+R<0 by omega),decide_eq_false (show ¬ 8388608<2952+R by omega)];rfl]
 rw [show 2952+R=2946+R+6 by omega]
 exact decide_eq_true key
theorem Cht (d:Int):∀ p ∈ Bb7 (grn d 0),fpt p.1.1 p.1.2.1=true∧(1≤p.2.1∧p.2.1≤8192):=by
 have a:(Bb7 (grn d 0)).all (fun p=>fpt p.1.1 p.1.2.1&&decide (1≤p.2.1∧p.2.1≤8192))=true:=rfl
 intro p hp
 have b:=List.all_eq_true.1 a p hp
 rw [Bool.and_eq_true] at b
 exact ⟨b.1,of_decide_eq_true b.2⟩
theorem Cyw {l:List (TCT Bbk)} {j:Nat} (h1:1≤j) (h2:j<l.length):j-1<(oth l 1).length∧Bam (oth l 1) (j-1) (Baj Baf)=Bg8 (spt (Bam l j (Baj Bbk))):=by
 have hl:(oth l 1).length=l.length-1:=by unfold oth;rw [List.length_map,List.length_drop]
 refine ⟨by omega,?_⟩
 rw [Bby (by omega),Bby h2]
 unfold oth
 rw [List.getElem_map,List.getElem_drop]
 congr 2
 congr 1
 omega
theorem Chu {α:Type} {d:α} {a b:List α} {i:Nat} (h:i<a.length):Bam (a++b) i d=Bam a i d:=by
 rw [Bby h,Bby (by rw [List.length_append];omega),List.getElem_append_left h]
theorem Chv {α:Type} {d:α} {a b:List α} {i:Nat} (h:i<b.length):Bam (a++b) (a.length+i) d=Bam b i d:=by
 rw [Bby h,Bby (by rw [List.length_append];omega),List.getElem_append_right (by omega)]
 congr 1
 omega
theorem Cyx {g:TCT cGr} {l:List (TCT Bbk)} {dr x y P d n:Int} (b:BlH x y P d n) (hg:g.1=grn dr 0) (hl0:Bc3 g.1=0) (hlen:(V2 g).length=l.length) (h4:l.length≤4) {a t:TCT cPt} (ha:a.1=(a05 l).1∧a.2.1=(a05 l).2.1) (ht:t.1=(a05 l).1+DW (64*Bjb P n*x) d∧t.2.1=(a05 l).2.1+DW (64*Bjb P n*y) d) (f1:fpt a.1 a.2.1=true) (f2:fpt t.1 t.2.1=true) (fo:∀ j:Nat,j<l.length→fpt (plS l j).1 (plS l j).2.1=true) {k:TCT cKn} (hk:Hit (Bv8 g l x y P d (16*n)) k):Cyu (postsV g.1) (iwF (iwD a t 2952) (Bb7 g.1++oth l 1) 0) k:=by
 have ev:postsV g.1=Bb7 g.1:=by unfold postsV;rw [hl0];rfl
 have pl:=Bth hl0
 obtain ⟨z,q | q⟩:=hk
 ·obtain ⟨e0,j,h1,h2,e1,nr⟩:=q
  have h2:j<l.length:=hlen ▸ h2
  obtain ⟨o1,o2⟩:=Cyw h1 h2
  refine ⟨z,.inl ⟨e0,?_⟩⟩
  have m:=C1o (p:=iwD a t 2952) (Bb7 g.1++oth l 1) 0 ((Bb7 g.1).length+(j-1)) (by rw [List.length_append];omega) (by
   rw [Chv o1,o2]
   exact Cf4 (D:=Bg8 (spt (Bam l j (Baj Bbk)))) (R:=2946) b ha ht f1 f2 (fo j h2) rfl (by omega) nr)
  rw [ev,e1,Bb4 (n:=((Bb7 g.1).length:Int)+(j:Int)) (by omega) (by omega),Bb4 (by omega) (by omega)]
  rw [show (0:Int)+(((Bb7 g.1).length+(j-1):Nat):Int)=((Bb7 g.1).length:Int)+(j:Int)-1 by omega] at m
  exact m
 ·obtain ⟨e0,j,h2,e1,h3,nr⟩:=q
  have h2:j<(postsV g.1).length:=h2
  refine ⟨z,.inr ⟨e0,?_⟩⟩
  rw [ev] at h2
  have nr:Cyl (Bv8 g l x y P d (16*n)) (Bam (postsV g.1) j (Baj Baf)).1.1 (Bam (postsV g.1) j (Baj Baf)).1.2.1 (2946+(Bam (postsV g.1) j (Baj Baf)).2.1):=nr
  rw [ev] at nr
  obtain ⟨g1,g2⟩:=(show ∀ p ∈ Bb7 g.1,fpt p.1.1 p.1.2.1=true∧(1≤p.2.1∧p.2.1≤8192) by rw [hg];exact Cht dr) _ (Bcl h2 (Baj Baf))
  have m:=C1o (p:=iwD a t 2952) (Bb7 g.1++oth l 1) 0 j (by rw [List.length_append];omega) (by
   rw [Chu h2]
   exact Cf4 b ha ht f1 f2 g1 rfl g2 nr)
  rw [e1]
  rw [Int.zero_add] at m
  exact m
end Tp
end V
end Go.Proofs.YtcfanlgpkefogaaGreat
namespace Go.Proofs.YtcfanlgpkefogaaGreat
open Go.RowKit
namespace V
namespace Tp
open St
def Bcw (w:TCT Bdn):Int:=bif w.1==0&&(w.2.1==0&&true) then 1 else w.2.1
def Bdq (w:TCT Bdn):Int:=1+w.2.2.1 % 2097152
def dH (w:TCT Bdn):Int:=dTo w.1 (Bcw w) 0 0
theorem Cae {w:TCT Bdn} (hw:WFD Bdn w):fpt w.1 (Bcw w)=true∧(w.1==0&&(Bcw w==0&&true))=false∧(-32768≤w.1∧w.1≤32767)∧(-32768≤Bcw w∧Bcw w≤32767):=by
 have h1 : -32768≤w.1∧w.1≤32767:=hw.1
 have h2 : -32768≤w.2.1∧w.2.1≤32767:=hw.2.1
 have h3 : -32768≤Bcw w∧Bcw w≤32767:=by
  unfold Bcw
  cases w.1==0&&(w.2.1==0&&true) with
  | true=>exact (by decide:(-32768:Int)≤1∧(1:Int)≤32767)
  | false=>exact h2
 refine ⟨?_,?_,h1,h3⟩
 ·exact decide_eq_true ⟨Int.le_trans (by decide) h1.1,Int.le_trans h1.2 (by decide),Int.le_trans (by decide) h3.1,Int.le_trans h3.2 (by decide)⟩
 ·unfold Bcw
  cases hx:w.1==0 with
  | false=>rfl
  | true =>
   cases hy:w.2.1==0 with
   | true=>rfl
   | false=>simp only [Bool.true_and,Bool.false_and,cond_false,hy]
theorem sq0 {x y:Int}:sq x y 0 0=x*x+y*y:=by unfold sq;grind
theorem ne0 {x y:Int} (h:(x==0&&(y==0&&true))=false):¬ (x=0∧y=0):=by
 rintro ⟨rfl,rfl⟩
 exact absurd h (by decide)
theorem D2m {w:TCT Bdn} (hw:WFD Bdn w) {n:Int} (hn:0≤n∧n≤40):BlH w.1 (Bcw w) (Bdq w) (dH w) n:=by
 obtain ⟨a1,a2,_,_⟩:=Cae hw
 have h0:fpt 0 0=true:=by decide
 have a:=Cas a1 h0 (ne0 a2)
 have s:=C67 a1 h0
 have p:=Cr2 (px:=w.1) (py:=Bcw w) (qx:=0) (qy:=0) (ne0 a2)
 obtain ⟨r1,r2,r3⟩:=Bg0 (sq w.1 (Bcw w) 0 0*4096) (by omega)
 refine ⟨?_,a.1,?_,by unfold Bdq;omega,hn⟩
 ·rw [← sq0];omega
 ·rw [← sq0]
  show rt (sq w.1 (Bcw w) 0 0*4096)*rt (sq w.1 (Bcw w) 0 0*4096)≤_
  omega
def blH (w:TCT Bdn):TCT cBl:=bwN w.1 w.2.1 (Bdq w) 0
theorem Cyy {w:TCT Bdn} (hw:WFD Bdn w):D1m (Beg w 0)=blH w:=by rw [C8d hw];rfl
theorem D2n {w:TCT Bdn} (hw:WFD Bdn w):twP (blH w)=(DW (64*Bdq w*w.1) (dH w),DW (64*Bdq w*Bcw w) (dH w),())∧(-4194304≤DW (64*Bdq w*w.1) (dH w)∧DW (64*Bdq w*w.1) (dH w)≤4194304)∧(-4194304≤DW (64*Bdq w*Bcw w) (dH w)∧DW (64*Bdq w*Bcw w) (dH w)≤4194304):=by
 obtain ⟨a1,a2,_,_⟩:=Cae hw
 have p:1≤Bdq w∧Bdq w≤2097152:=C3b _
 obtain ⟨t0,t1,t2⟩:=Ce9 a1 a2 p
 obtain ⟨_,_,v,_⟩:=Cqv t0
 have e1:(TwR w.1 (Bcw w) 0 0 (Bdq w)).1.1=DW (64*Bdq w*w.1) (dH w):=by
  rw [v]
  show 0+DW (64*Bdq w*(w.1-0)) (dTo w.1 (Bcw w) 0 0)=_
  rw [Int.zero_add,Int.sub_zero];rfl
 have e2:(TwR w.1 (Bcw w) 0 0 (Bdq w)).1.2=DW (64*Bdq w*Bcw w) (dH w):=by
  rw [v]
  show 0+DW (64*Bdq w*(Bcw w-0)) (dTo w.1 (Bcw w) 0 0)=_
  rw [Int.zero_add,Int.sub_zero];rfl
 rw [e1] at t1
 rw [e2] at t2
 refine ⟨?_,⟨Int.le_trans (by decide) t1.1,Int.le_trans t1.2 (by decide)⟩,⟨Int.le_trans (by decide) t2.1,Int.le_trans t2.2 (by decide)⟩⟩
 show ((TwR w.1 (Bcw w) 0 0 (Bdq w)).1.1,(TwR w.1 (Bcw w) 0 0 (Bdq w)).1.2,())=_
 rw [e1,e2]
structure SetH (l:List (TCT Bbk)) (g:TCT cGr) (s:TCT cSt) (d:Int):Prop where
 S:StaOk g s
 st:Bcc s=true
 o:∀ j:Nat,Bbs (osT s) j=false
 n:(V2 g).length=l.length
 g1:g.1=grn d 0
 b:∀ i:Nat,i<(V2 g).length→Bch (V2 g) i=Bdy
 p:∀ j:Nat,j<l.length→Bag (msT s) j=C12 (spt (Bam l j (Baj Bbk)))
 d0:0≤d
theorem SetH.on {l:List (TCT Bbk)} {g:TCT cGr} {s:TCT cSt} {d:Int} (h:SetH l g s d) {j:Nat} (hj:j<l.length):onB g.1 (plS l j)=true:=by
 have a:=(Bqv h.S).2 j (by rw [h.n];exact hj) (h.o j)
 rw [h.p j hj] at a
 exact a
theorem SetH.pt {l:List (TCT Bbk)} {g:TCT cGr} {s:TCT cSt} {d:Int} (h:SetH l g s d) {j:Nat} (hj:j<l.length):(0≤(plS l j).1∧(plS l j).1≤100000)∧(0≤(plS l j).2.1∧(plS l j).2.1≤200000):=by
 have a:=h.on hj
 rw [h.g1,Cnk] at a
 simp only [Bool.and_eq_true] at a
 exact ⟨⟨of_decide_eq_true a.1,of_decide_eq_true a.2.1⟩,of_decide_eq_true a.2.2.1,of_decide_eq_true a.2.2.2⟩
theorem Buy {x y:Int} (h:(0≤x∧x≤100000)∧(0≤y∧y≤200000)):fpt x y=true:=decide_eq_true (by omega)
theorem D2o {l:List (TCT Bbk)} {g:TCT cGr} {s:TCT cSt} {d C:Int} {w:TCT Bdn} (hw:WFD Bdn w) (h:SetH l g s d):(Bv8 g l w.1 (Bcw w) (Bdq w) (dH w) C).Ok:=by
 obtain ⟨_,b1,b2⟩:=D2n hw
 exact ⟨h.S.n1,h.b,fun j _ h2=>h.on (h.n ▸ h2),by show D3s g.1;rw [h.g1];exact D3t h.d0,b1,b2⟩
theorem Cqy {l:List (TCT Bbk)} {g:TCT cGr} {s:TCT cSt} {d C:Int} {w:TCT Bdn} (hw:WFD Bdn w) (h:SetH l g s d):UL (Bv8 g l w.1 (Bcw w) (Bdq w) (dH w) C) 0 0 (Bg9 (msT s) 0 (twP (blH w))) (osT s):=by
 obtain ⟨e,_,_⟩:=D2n hw
 have n1:=h.S.n1
 have hm:=h.S.m
 have hn:=h.n
 refine ⟨Buz.trans hm,h.S.o,fun j h1 h2=>⟨h.o j,?_⟩,.inr ?_⟩
 ·have e1:Bag (Bg9 (msT s) 0 (twP (blH w))) j=Bag (msT s) j:=Bd4 (by show ¬ j=0;omega)
  have h2:j<l.length:=h.n ▸ h2
  rw [e1,h.p j h2]
  exact ⟨rfl,rfl⟩
 ·have e1:Bag (Bg9 (msT s) 0 (twP (blH w))) 0=((Bag (msT s) 0).1,((twP (blH w)).1,(twP (blH w)).2.1,()),(Bag (msT s) 0).2.2.1,()):=Ber (by omega) rfl
  rw [e1,h.p 0 (by omega),e]
  refine ⟨Cqj (D2m hw (n:=0) ⟨by decide,by decide⟩).hd,0,by decide,by decide,?_,(by decide:(-14400:Int)≤0∧(0:Int)≤14400),(by decide:(-14400:Int)≤0∧(0:Int)≤14400)⟩
  have z:∀ a:Int,28800*(a-a)+0=0:=fun a=>by omega
  show FrZ _ _ _ _ 0 (28800*((a05 l).1-(a05 l).1)+0) (28800*((a05 l).2.1-(a05 l).2.1)+0)
  rw [z,z]
  exact Cyj
end Tp
end V
end Go.Proofs.YtcfanlgpkefogaaGreat
namespace Go.Proofs.YtcfanlgpkefogaaGreat
open Go.RowKit
namespace V
namespace Tp
open St
theorem D2p {P n:Int} (hP:1≤P∧P≤2097152) (hn:0≤n∧n≤40):W64 (40+W64 (n*W64 (W64 (Int.tdiv (W64 (P+2)) (W64 (4*450)))+17)))=Bjb P n∧0≤Bjb P n∧Bjb P n≤4194304:=by
 have e1:W64 (4*450)=1800:=Bb4 (by decide) (by decide)
 rw [e1,Bb4 (n:=P+2) (by omega) (by omega),Int.tdiv_eq_ediv_of_nonneg (by omega)]
 unfold Bjb
 have h1:0≤(P+2) / 1800∧(P+2) / 1800≤1166:=by omega
 generalize (P+2) / 1800=q at *
 have h2:n*(q+17)≤40*1183:=Int.mul_le_mul hn.2 (by omega) (by omega) (by omega)
 have h3:0≤n*(q+17):=Int.mul_nonneg hn.1 (by omega)
 rw [Bb4 (n:=q) (by omega) (by omega),Bb4 (n:=q+17) (by omega) (by omega),Bb4 (n:=n*(q+17)) (by omega) (by omega),Bb4 (n:=40+n*(q+17)) (by omega) (by omega)]
 omega
theorem D6w {l:List (TCT Bbk)} (h4:l.length≤4) (fo:∀ j:Nat,j<l.length→fpt (plS l j).1 (plS l j).2.1=true):cbE 2952 (oth l 1)=0:=by
 have hl:(oth l 1).length≤4:=by unfold oth;rw [List.length_map,List.length_drop];omega
 have a:(oth l 1).any cbP=false:=by
  rw [List.any_eq_false]
  intro D hD
  unfold oth at hD
  obtain ⟨e,he,rfl⟩:=List.mem_map.1 hD
  obtain ⟨j,hj,rfl⟩:=List.getElem_of_mem (List.mem_of_mem_drop he)
  have f:=fo j hj
  unfold plS at f
  rw [Bby hj] at f
  unfold cbP
  rw [Bp3]
  show ¬ ((!fpt (spt l[j]).1 (spt l[j]).2.1||!St.inR 2946 1 16384)=true)
  rw [show fpt (spt l[j]).1 (spt l[j]).2.1=true from f]
  decide
 unfold cbE
 rw [a,decide_eq_false (show ¬ ((oth l 1).length:Int)>12 by omega)]
 rfl
theorem Dbx {y:Fq Bop} (h:y=Blb true∨y=Bts):(Cl9 (some y)).sat (fun _=>True):=by
 rcases h with rfl | rfl
 ·exact trivial
 ·exact trivial
theorem Dby {g:TCT cGr} {l:List (TCT Bbk)} {ks:Kns} {t:TCT cPt} (hs:(g.1.1.size:Int)≤Bb2 .i64) (hl0:Bc3 g.1=0) (h4:l.length≤4) (fo:∀ j:Nat,j<l.length→fpt (plS l j).1 (plS l j).2.1=true) (f1:fpt (a05 l).1 (a05 l).2.1=true) (f2:fpt t.1 t.2.1=true) (hk:ks.length≤200000)
  (q:AO ks∨∃ (C:Kns) (k:TCT cKn) (D:Kns),ks=C++k::D∧AO C∧Cyu (postsV g.1) (iwF (iwD ((a05 l).1,(a05 l).2.1,()) (t.1,t.2.1,()) 2952) (Bb7 g.1++oth l 1) 0) k):(Cch Bnp postsV (Bcq g) ks (a05 l) (t.1,t.2.1,()) (oth l 1)).sat (fun _=>True):=by
 have e0:Bi1 g.1 ((a05 l).1,(a05 l).2.1,()) (t.1,t.2.1,()) 2952 (oth l 1)=0:=by
  unfold Bi1
  rw [hl0,Bp3,Bp3,f1,f2,D6w h4 fo]
  rfl
 have ev:Bn5 g.1 ((a05 l).1,(a05 l).2.1,()) (t.1,t.2.1,()) 2952 (oth l 1)=iwF (iwD ((a05 l).1,(a05 l).2.1,()) (t.1,t.2.1,()) 2952) (Bb7 g.1++oth l 1) 0:=by
  unfold Bn5
  rw [e0];rfl
 have w:W64 (2946+6)=2952:=Bb4 (by decide) (by decide)
 have ei:Cug Bnp (Bcq g) (a05 l) (t.1,t.2.1,()) (oth l 1)=(iwF (iwD ((a05 l).1,(a05 l).2.1,()) (t.1,t.2.1,()) 2952) (Bb7 g.1++oth l 1) 0,0):=by
  unfold Cug Bnp
  rw [w]
  show (Bn5 g.1 ((a05 l).1,(a05 l).2.1,()) (t.1,t.2.1,()) 2952 (oth l 1),Bi1 g.1 ((a05 l).1,(a05 l).2.1,()) (t.1,t.2.1,()) 2952 (oth l 1))=_
  rw [e0,ev]
 unfold Cch
 rw [ei]
 rw [show szT (lwG (Bcq g)) _=_ from Bce (l:=g.1) hs,show szT (lwG (Bcq g)) _=_ from Bce (l:=g.1) hs]
 show (bif (0:Int)!=0 then Tree.fail else bif Bc3 g.1 != 0 then Tree.fail else Cl9 (iter Bk1 (ks.length+1) (Bla ks (iwF (iwD ((a05 l).1,(a05 l).2.1,()) (t.1,t.2.1,()) 2952) (Bb7 g.1++oth l 1) 0) (postsV g.1) 0))).sat (fun _=>True)
 rw [hl0]
 have hi:(iwF (iwD ((a05 l).1,(a05 l).2.1,()) (t.1,t.2.1,()) 2952) (Bb7 g.1++oth l 1) 0).length≤100000:=by
  have a:=Cf2 (p:=iwD ((a05 l).1,(a05 l).2.1,()) (t.1,t.2.1,()) 2952) (Bb7 g.1++oth l 1) 0
  have b:=Bth hl0
  have c:(oth l 1).length≤4:=by unfold oth;rw [List.length_map,List.length_drop];omega
  rw [List.length_append] at a
  omega
 obtain ⟨y,e,hy⟩:=Cqu (ps:=postsV g.1) hi ks [] ks (ks.length+1) rfl hk (Nat.le_refl _) q
 rw [show ((([]:Kns).length:Nat):Int)=0 from rfl] at e
 rw [e]
 exact Dbx hy
theorem Dbz {g:TCT cGr} {s:TCT cSt} {l:List (TCT Bbk)} {ks:Kns} {d:Int} {w:TCT Bdn} {n:Int} (hw:WFD Bdn w) (hn:0≤n∧n≤40) (h:SetH l g s d) (hs:(g.1.1.size:Int)≤Bb2 .i64) (h4:l.length≤4) (hk:ks.length≤200000) (q:AO ks∨DG (Bv8 g l w.1 (Bcw w) (Bdq w) (dH w) (16*n)) ks) :
  (Cci Bnp postsV l g ks (a05 l) (Bxk (W64 ((a05 l).1+w.1),W64 ((a05 l).2.1+Bcw w),()) (a05 l) (Bjb (Bdq w) n))).sat (fun _=>True):=by
 have hl1:0<l.length:=by have:=h.S.n1;have:=h.n;omega
 obtain ⟨a1,a2,b1,b2⟩:=Cae hw
 have pt:(0≤(a05 l).1∧(a05 l).1≤100000)∧(0≤(a05 l).2.1∧(a05 l).2.1≤200000):=h.pt hl1
 have f1:fpt (a05 l).1 (a05 l).2.1=true:=Buy pt
 have fo:∀ j:Nat,j<l.length→fpt (plS l j).1 (plS l j).2.1=true:=fun j hj=>Buy (h.pt hj)
 have hl0:Bc3 g.1=0:=(Bz2 h.S.gr).1
 have ln:=(D2p (P:=Bdq w) (n:=n) (C3b _) hn).2
 have bl:=D2m hw hn
 have wx:W64 ((a05 l).1+w.1)=(a05 l).1+w.1:=Ceb pt.1 b1
 have wy:W64 ((a05 l).2.1+Bcw w)=(a05 l).2.1+Bcw w:=w_add2 pt.2 b2
 have hne:¬ ((a05 l).1+w.1=(a05 l).1∧(a05 l).2.1+Bcw w=(a05 l).2.1):=fun e=>ne0 a2 ⟨add_z e.1,add_z e.2⟩
 have f3:fpt ((a05 l).1+w.1) ((a05 l).2.1+Bcw w)=true:=f_add pt b1 b2
 rw [wx,wy]
 unfold Cci
 show (bif (TwR ((a05 l).1+w.1) ((a05 l).2.1+Bcw w) (a05 l).1 (a05 l).2.1 (Bjb (Bdq w) n)).2 != 0 then _ else _:Tree Unit).sat _
 cases he:(TwR ((a05 l).1+w.1) ((a05 l).2.1+Bcw w) (a05 l).1 (a05 l).2.1 (Bjb (Bdq w) n)).2 != 0 with
 | true =>
  have e4:=D6v f3 f1 hne ln (bne_iff_ne.1 he)
  show (bif (TwR ((a05 l).1+w.1) ((a05 l).2.1+Bcw w) (a05 l).1 (a05 l).2.1 (Bjb (Bdq w) n)).2==4 then lfU5 else .fail:Tree Unit).sat _
  rw [e4]
  exact trivial
 | false =>
  obtain ⟨_,_,v,f2⟩:=Cqv (bne_eq_false_iff_eq.1 he)
  have hdd:dTo ((a05 l).1+w.1) ((a05 l).2.1+Bcw w) (a05 l).1 (a05 l).2.1=dH w:=by
   unfold dH dTo
   rw [show sq ((a05 l).1+w.1) ((a05 l).2.1+Bcw w) (a05 l).1 (a05 l).2.1=sq w.1 (Bcw w) 0 0 by unfold sq;exact sq_sh]
  have ex:∀ (p z d l:Int),ToX (p+z) p d l=p+DW (64*l*z) d:=fun p z d l=>by
   unfold ToX
   rw [show p+z-p=z by omega]
  rw [hdd,ex,ex] at v f2
  show (D1k Bnp postsV (iter Bqg (l.length+1) (C0e ⟨l,Bcq g,ks,a05 l,((TwR ((a05 l).1+w.1) ((a05 l).2.1+Bcw w) (a05 l).1 (a05 l).2.1 (Bjb (Bdq w) n)).1.1,(TwR ((a05 l).1+w.1) ((a05 l).2.1+Bcw w) (a05 l).1 (a05 l).2.1 (Bjb (Bdq w) n)).1.2,())⟩ [] 1))).sat _
  rw [v]
  have it:=Cqx (q:=⟨l,Bcq g,ks,a05 l,((a05 l).1+DW (64*Bjb (Bdq w) n*w.1) (dH w),(a05 l).2.1+DW (64*Bjb (Bdq w) n*Bcw w) (dH w),())⟩) (by show l.length≤1000;omega) (l.length-1) 1 (l.length+1) [] (by show 1+(l.length-1)=l.length;omega) (by rw [List.length_nil];omega) (by omega)
  rw [show ((1:Nat):Int)=1 from rfl] at it
  rw [it]
  show (Cch Bnp postsV (Bcq g) ks (a05 l) ((a05 l).1+DW (64*Bjb (Bdq w) n*w.1) (dH w),(a05 l).2.1+DW (64*Bjb (Bdq w) n*Bcw w) (dH w),()) (oth l 1)).sat _
  refine Dby (t:=((a05 l).1+DW (64*Bjb (Bdq w) n*w.1) (dH w),(a05 l).2.1+DW (64*Bjb (Bdq w) n*Bcw w) (dH w),())) hs hl0 h4 fo f1 f2 hk ?_
  rcases q with q | ⟨A,k,B,e,a,hit⟩
  ·exact .inl q
  ·exact .inr ⟨A,k,B,e,a,Cyx (a:=((a05 l).1,(a05 l).2.1,())) bl h.g1 hl0 h.n h4 ⟨rfl,rfl⟩ ⟨rfl,rfl⟩ f1 f2 fo hit⟩
where
 Ceb {a b:Int} (h:0≤a∧a≤100000) (k : -32768≤b∧b≤32767):W64 (a+b)=a+b:=Bb4 (by omega) (by omega)
 w_add2 {a b:Int} (h:0≤a∧a≤200000) (k : -32768≤b∧b≤32767):W64 (a+b)=a+b:=Bb4 (by omega) (by omega)
 add_z {a b:Int} (h:a+b=a):b=0:=by omega
 f_add {a b x y:Int} (h:(0≤a∧a≤100000)∧(0≤b∧b≤200000)) (k1 : -32768≤x∧x≤32767) (k2 : -32768≤y∧y≤32767):fpt (a+x) (b+y)=true:=decide_eq_true (by omega)
 sq_sh {a b x y:Int}:(a-(a+x))*(a-(a+x))+(b-(b+y))*(b-(b+y))=(0-x)*(0-x)+(0-y)*(0-y):=by grind
end Tp
end V
end Go.Proofs.YtcfanlgpkefogaaGreat
namespace Go.Proofs.YtcfanlgpkefogaaGreat
open Go.RowKit
namespace V
namespace Tp
open St
theorem Chw {l:List (TCT Bbk)} {g:TCT cGr} {s:TCT cSt} {d C:Int} {w:TCT Bdn} (hw:WFD Bdn w) (h:SetH l g s d) (hC:0≤C) (he:(skV g s (blH w)).2.2.1=0):DG (Bv8 g l w.1 (Bcw w) (Bdq w) (dH w) C) (skV g s (blH w)).2.1∨((skV g s (blH w)).2.1=[]∧(skV g s (blH w)).1.2.2.2.1=0∧UL (Bv8 g l w.1 (Bcw w) (Bdq w) (dH w) C) 0 0 (msT (skV g s (blH w)).1) (osT (skV g s (blH w)).1)):=by
 have e:=(Cev he).2
 rw [e] at he ⊢
 have e2:skG g s (blH w)=skF (osT s) (blH w) (seF (V2 g) g.2.2.1 0 0 (blH w).1 0 (V2 g).length (Bg9 (msT s) (blH w).1 (twP (blH w)),osT s,[])):=rfl
 rw [e2] at he ⊢
 cases h1:seF (V2 g) g.2.2.1 0 0 (blH w).1 0 (V2 g).length (Bg9 (msT s) (blH w).1 (twP (blH w)),osT s,[]) with
 | inr x =>
  rw [h1] at he
  have he:x=0:=he
  exact absurd he (Buv h1)
 | inl r =>
  obtain ⟨ms,ks⟩:=r
  rw [h1] at he
  have k:=D2o (C:=C) hw h
  have u:=Cqy (C:=C) hw h
  rcases Bv7 k (c:=0) (t:=0) hC (s:=(Bg9 (msT s) 0 (twP (blH w)),osT s,[])) ⟨u,fun y hy=>nomatch hy⟩ h1 with ⟨a,b⟩ | a
  ·have b:ks=[]:=b
   subst b
   exact .inr ⟨rfl,rfl,a⟩
  ·left
   unfold skF
   unfold skF at he
   simp only at he ⊢
   cases h2:decide ((ks.length:Int)>0) with
   | false=>exact a
   | true =>
    rw [h2] at he
    cases h3:C1j (skM ms (blH w)) (blH w).1 with
    | true=>rw [h3] at he;cases he
    | false=>exact a
theorem Dc0 {l:List (TCT Bbk)} {g:TCT cGr} {s t:TCT cSt} {d tk:Int} {w:TCT Bdn} (hw:WFD Bdn w) (h:SetH l g s d) (hs:(g.1.1.size:Int)≤Bb2 .i64) (h4:l.length≤4) (h0:0<l.length) {n:Nat} (hn:Int.tmod (W64 tk) 41=(n:Int)) (hn2:n≤40) (k1:Kns) (hk1:k1.length≤10000) (ts:StaOk g t) (tt:t.2.2.2.2.1=0)
  (q:DG (Bv8 g l w.1 (Bcw w) (Bdq w) (dH w) (16*(n:Int))) k1∨(k1=[]∧t.2.2.2.1=0∧UL (Bv8 g l w.1 (Bcw w) (Bdq w) (dH w) (16*(n:Int))) 0 0 (msT t) (osT t))) :
  (Cla Bxk Bnp postsV l tk g (Beg w 0) k1 (PlayV g t (Int.tmod (W64 tk) 41))).sat (fun _=>True):=by
 have hn0:(0:Int)≤(n:Int)∧(n:Int)≤40:=by omega
 have ln:=(D2p (P:=Bdq w) (n:=(n:Int)) (C3b _) hn0).1
 rw [hn,play_of ts (by omega),C8d hw]
 unfold Cla
 cases hr:rnS g n t [] with
 | inr e =>
  have e4:=Cqw n t [] e ts (by rw [tt];exact Int.le_refl _) (by rw [tt,Int.zero_add];exact Int.le_trans hn0.2 (by decide)) hr
  show (bif e != 0 then bif e==4 then lfU5 else bif e==6 then lfU5 else .fail else _:Tree Unit).sat _
  rcases e4 with rfl | rfl <;> exact trivial
 | inl r =>
  obtain ⟨_,hl⟩:=Cen n t [] r ts hr
  have q2:AO (([]++k1)++r.2)∨DG (Bv8 g l w.1 (Bcw w) (Bdq w) (dH w) (16*(n:Int))) (([]++k1)++r.2):=by
   rcases q with q | ⟨q,qf,u⟩
   ·exact .inr (DG.app r.2 (by rw [List.nil_append];exact q))
   ·subst q
    have z:(0:Int)+(n:Int)=(n:Int):=Int.zero_add _
    exact Cqs (D2o hw h) rfl rfl rfl n 0 t [] r (Int.le_refl _) (by omega) (by show 16*(0+(n:Int))≤16*(n:Int);omega) qf (.inl ⟨u,fun y hy=>nomatch hy⟩) hr
  have e5:=Dbz (ks:=([]++k1)++r.2) hw hn0 h hs h4 (by rw [List.length_append,List.nil_append];exact Nat.le_trans (Nat.add_le_add hk1 hl) (by decide)) q2
  show (bif Bcs ([]:Kns) k1 40 then bif Bcs (([]:Kns)++k1) r.2 40 then inN l.length 0 (Cci Bnp postsV l g ((([]:Kns)++k1)++r.2) (a05 l) (Bxk (W64 ((a05 l).1+w.1),W64 ((a05 l).2.1+Bcw w),()) (a05 l) (Cuh tk (bwN w.1 w.2.1 (Bdq w) (w.2.2.2.1 % 5))))) else .fail else .fail).sat _
  have e6:Cuh tk (bwN w.1 w.2.1 (Bdq w) (w.2.2.2.1 % 5))=Bjb (Bdq w) (n:Int):=by
   rw [← ln]
   unfold Cuh
   rw [hn]
   rfl
  rw [e6,Bi7 (h:=([]:Kns)) (by rw [List.length_nil,Nat.zero_add];exact Nat.le_trans hk1 (by decide)) (by decide),Bi7 (h:=([]:Kns)++k1) (by rw [List.nil_append];exact Nat.le_trans (Nat.add_le_add hk1 hl) (by decide)) (by decide),Bd0 (by omega)]
  exact e5
theorem Chx {l:List (TCT Bbk)} {w:TCT Bdn} {d tk:Int} (x:TCT Bbv) (hw:WFD Bdn w) (h0:(l.length:Int)≠0) (h4:¬ (l.length:Int)>4) (hd:0≤d) (ht:0≤tk∧tk≤255):(Clb skV PlayV Bxk Bnp postsV l tk (Be8 d 0 x l) (Bf5 d 0 x l) (Bfu d 0 x l) (Beg w 0)).sat (fun _=>True):=by
 unfold Clb
 cases hb:Bfu d 0 x l with
 | false=>exact trivial
 | true =>
  obtain ⟨hS,hst,hout,hlen,hgr⟩:=Cl3 hb
  obtain ⟨_,hB⟩:=D3v (d:=d) (s:=0) (x:=x) (l:=l)
  have hP:=D6u hb
  have hs:((Be8 d 0 x l).1.1.size:Int)≤Bb2 .i64:=by rw [hgr];exact Bol d 0
  generalize Be8 d 0 x l=g at *
  generalize Bf5 d 0 x l=s at *
  have h:SetH l g s d:=⟨hS,hst,hout,hlen,hgr,hB,hP,hd⟩
  rw [Bool.not_true,cond_false,Bce hs,Cyy hw]
  have hbw:bwB ((V2 g).length:Int) (blH w)=false:=Cl1 hw.1 hw.2.1 (C3b _) (by decide) (by omega)
  have k:SkOk g s (blH w):=⟨hS,Cea hbw,hst,hout _⟩
  unfold D1l
  cases he2:(skV g s (blH w)).2.2.1 != 0 with
  | true =>
   rw [Cr3 k hbw (bne_iff_ne.1 he2)]
   exact trivial
  | false =>
   have he':=bne_eq_false_iff_eq.1 he2
   obtain ⟨t1,_⟩:=Cab he'
   obtain ⟨_,t0,tl,_⟩:=Cr5 he'
   rw [cond_false,Bce hs]
   have w1:W64 tk=tk:=Bb4 (by omega) (by omega)
   have m1:Int.tmod (W64 tk) 41=((tk % 41).toNat:Int):=by
    rw [w1,Int.tmod_eq_emod_of_nonneg ht.1]
    omega
   exact Dc0 hw h hs (by omega) (by omega) m1 (by omega) (skV g s (blH w)).2.1 tl t1 t0 (Chw hw h (by omega) he')
theorem D6x {l:List (TCT Bbk)} {w:TCT Bdn} {dr tk:Int} (hw:WFD Bdn w) (hd:0≤dr∧dr≤65535) (ht:0≤tk∧tk≤255):(Cui Be8 Bf5 Bfu Beg skV PlayV Bxk Bnp postsV l w dr tk).sat (fun _=>True):=by
 unfold Cui
 cases h1:(l.length:Int)==0 with
 | true=>exact trivial
 | false =>
  rw [cond_false]
  cases h2:decide ((l.length:Int)>4) with
  | true=>exact trivial
  | false =>
   have h3:=of_decide_eq_false h2
   rw [cond_false,decide_eq_true (by omega),cond_true]
   exact Chx _ hw (by intro e;rw [e] at h1;cases h1) h3 (Dd8 hd) ht
end Tp
open Tp
theorem topHindered_sat:LawSat X_topHindered 6 cs_topHindered 10:=Ct8 10 (fun y=>Cui Be8 Bf5 Bfu Beg St.skV St.PlayV Bxk Bnp St.postsV y.1 y.2.1 y.2.2.1 y.2.2.2.1) (Cuj Be8 Bf5 Bfu Beg St.skV St.PlayV Bxk Bnp St.postsV) fun _ hw=>D6x hw.2.1 hw.2.2.1 hw.2.2.2.1
end V
end Go.Proofs.YtcfanlgpkefogaaGreat
