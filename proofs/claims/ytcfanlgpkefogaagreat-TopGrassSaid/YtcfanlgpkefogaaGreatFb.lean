import Derived.Test.YtcfanlgpkefogaaGreatEr
namespace Go.Proofs.YtcfanlgpkefogaaGreat
open Go.RowKit
namespace V
namespace St
def tcK (i:Nat) (k:TCT cKn):Bool:=k.2.2.2.1==(i:Int)||(k.2.2.1==0&&k.2.2.2.2.1==(i:Int))
def tcB (i:Nat) (ks:Kns):Bool:=ks.any (tcK i)
theorem Bln {i:Nat} {a b:Kns}:tcB i (a++b)=(tcB i a||tcB i b):=List.any_append
structure REL (i:Nat) (s s':S2):Prop where
 r0:tcB i s.2.2=true→tcB i s'.2.2=true
 r1:Bbu s.2.1 i=true→Bbu s'.2.1 i=true∧(V2 s'.1 i).1=(V2 s.1 i).1∧tcB i s'.2.2=tcB i s.2.2
 r2:Bdo (V2 s.1 i)=true→tcB i s'.2.2=false→V2 s'.1 i=V2 s.1 i∧Bbu s'.2.1 i=Bbu s.2.1 i
theorem REL.refl {i:Nat} {s:S2}:REL i s s:=⟨id,fun h=>⟨h,rfl,rfl⟩,fun _ _=>⟨rfl,rfl⟩⟩
theorem REL.trans {i:Nat} {a b c:S2} (h:REL i a b) (k:REL i b c):REL i a c:=by
 refine ⟨fun e=>k.r0 (h.r0 e),fun e=>?_,fun e f=>?_⟩
 ·obtain ⟨x1,x2,x3⟩:=h.r1 e
  obtain ⟨y1,y2,y3⟩:=k.r1 x1
  exact ⟨y1,y2.trans x2,y3.trans x3⟩
 ·have hb:tcB i b.2.2=false:=by
   cases hc:tcB i b.2.2 with
   | false=>rfl
   | true=>rw [k.r0 hc] at f;cases f
  obtain ⟨x1,x2⟩:=h.r2 e hb
  obtain ⟨y1,y2⟩:=k.r2 (by rw [x1];exact e) f
  exact ⟨y1.trans x1,y2.trans x2⟩
theorem Bdk {l:Baj} {i j:Nat} {x:TCT Baq} (h:¬ j=i):V2 (Bb7 l i x) j=V2 l j:=by
 unfold V2
 rcases Bhg (d:=Bas Baq) l i j x with e | e
 ·rw [Bbe,Bcv,Bcv,List.getD_eq_getElem?_getD,List.getD_eq_getElem?_getD,List.getElem?_set,if_neg (fun e=>h e.symm)]
 ·exact e
theorem Bx7 {l:List Bool} {i j:Nat} {x:Bool} (h:¬ j=i):Bbu (Bb7 l i x) j=Bbu l j:=by
 unfold Bbu
 rw [Bbe,Bcv,Bcv,List.getD_eq_getElem?_getD,List.getD_eq_getElem?_getD,List.getElem?_set,if_neg (fun e=>h e.symm)]
theorem Caq {ms:Baj} {os:List Bool} {i:Nat} (h:Bbo ms os i=true):Bbu os i=false∧Bdo (V2 ms i)=false:=by
 unfold Bbo at h
 rw [Bool.and_eq_true,Ca0] at h
 unfold Bbu V2
 exact ⟨by simpa using h.1,by simpa using h.2⟩
theorem REL.roll {i j:Nat} {ms:Baj} {os:List Bool} {ks ks':Kns} {x:TCT Baq} (h:Bbo ms os j=true) (hk:tcB i ks=true→tcB i ks'=true) (hn:¬ i=j→tcB i ks'=tcB i ks):REL i (ms,os,ks) (Bb7 ms j x,os,ks'):=by
 obtain ⟨h1,h2⟩:=Caq h
 refine ⟨hk,fun e=>?_,fun e f=>?_⟩
 ·by_cases k:i=j
  ·subst k;rw [show Bbu os i=true from e] at h1;cases h1
  ·exact ⟨e,by show (V2 (Bb7 ms j x) i).1=_;rw [Bdk k],hn k⟩
 ·by_cases k:i=j
  ·subst k;rw [show Bdo (V2 ms i)=true from e] at h2;cases h2
  ·exact ⟨Bdk k,rfl⟩
theorem Csj {l:TCT Bam} {os:List Bool} {w fl:Int} {i j:Nat} {ms ms':Baj} {ks:Kns} (h:slE l os w fl j ms=.inl ms'):REL i (ms,os,ks) (ms',os,ks):=by
 unfold slE at h
 cases h1:Bbo ms os j with
 | false=>rw [h1] at h;cases h;exact .refl
 | true =>
  rw [h1] at h
  cases h0:Bck w fl j with
  | true=>rw [h0] at h;cases h;exact .refl
  | false =>
   rw [h0] at h
   cases h2:Bdr l (V2 ms j).1 != 0 with
   | true=>rw [h2] at h;cases h
   | false =>
    rw [h2] at h
    cases h3:(Bhq l (V2 ms j)).2.1 != 0 with
    | true=>rw [h3] at h;cases h
    | false=>rw [h3] at h;cases h;exact REL.roll h1 id (fun _=>rfl)
theorem Csk {bl:List (TCT Fq)} {os:List Bool} {i j:Nat} {ms ms':Baj} {ks:Kns} (h:stE bl os j ms=.inl ms'):REL i (ms,os,ks) (ms',os,ks):=by
 unfold stE at h
 cases h1:Bbo ms os j with
 | false=>rw [h1] at h;cases h;exact .refl
 | true =>
  rw [h1] at h
  cases h3:(Bhr (Bc1 bl j) (V2 ms j)).2.1 != 0 with
  | true=>rw [h3] at h;cases h
  | false=>rw [h3] at h;cases h;exact REL.roll h1 id (fun _=>rfl)
theorem Cwk {i j:Nat} {t st k o:Int} (hk:(k==0)=false) (h:¬ i=j):tcB i [kn t st k (j:Int) o]=false:=by
 show (tcK i (kn t st k (j:Int) o)||false)=false
 unfold tcK kn
 rw [hk,Bool.false_and,Bool.or_false,Bool.or_false]
 exact beq_eq_false_iff_ne.2 (by show ¬ (j:Int)=(i:Int);omega)
theorem Brr {i:Nat} {a b:Kns} (h:tcB i a=true):tcB i (a++b)=true:=by rw [Bln,h];rfl
theorem Csl {l:TCT Bam} {t st:Int} {i j:Nat} {s s':S2} (h:lvE l t st j s=.inl s'):REL i s s':=by
 unfold lvE at h
 cases h1:Bav s.2.1 j (Bas .b) with
 | true=>rw [h1] at h;cases h;exact .refl
 | false =>
  rw [h1] at h
  cases h2:onB l (V2 s.1 j).1 with
  | true=>rw [h2] at h;cases h;exact .refl
  | false =>
   rw [h2] at h
   cases h
   by_cases k:i=j
   ·subst k
    refine ⟨Brr,fun e=>?_,fun e f=>?_⟩
    ·unfold Bbu at e;rw [h1] at e;cases e
    ·have:tcB i (s.2.2++[kn t st 2 (i:Int) 0])=true:=by
      rw [Bln]
      have:tcB i [kn t st 2 (i:Int) 0]=true:=by
       show (tcK i (kn t st 2 (i:Int) 0)||false)=true
       unfold tcK kn
       rw [beq_self_eq_true];rfl
      rw [this,Bool.or_true]
     rw [show tcB i (s.2.2++[kn t st 2 (i:Int) 0])=false from f] at this
     cases this
   ·refine ⟨Brr,fun e=>⟨?_,?_,?_⟩,fun e f=>⟨?_,?_⟩⟩
    ·show Bbu (Bb7 s.2.1 j true) i=true;rw [Bx7 k];exact e
    ·show (V2 (Bb7 s.1 j _) i).1=_;rw [Bdk k]
    ·show tcB i (s.2.2++[_])=_;rw [Bln,Cwk rfl k,Bool.or_false]
    ·exact Bdk k
    ·exact Bx7 k
def UN (s s':SS):Prop:=(∀ p ∈ s.2,p ∈ s'.2)∧∀ k:Nat,(∀ p ∈ s'.2,¬ p.1=(k:Int)∧¬ p.2.1=(k:Int))→V2 s'.1 k=V2 s.1 k
theorem UN.refl {s:SS}:UN s s:=⟨fun _ h=>h,fun _ _=>rfl⟩
theorem UN.trans {a b c:SS} (h:UN a b) (k:UN b c):UN a c:=⟨fun p hp=>k.1 p (h.1 p hp),fun j hj=>(k.2 j hj).trans (h.2 j fun p hp=>hj p (k.1 p hp))⟩
theorem Clo {l:List (TCT Fq)} {re dr:Int} {i k:Nat} {s s':SS} (h:Bdp l re dr i k s=some s'):UN s s':=by
 unfold Bdp at h
 cases h1:(Bbm (bAt l s.1 i) (bAt l s.1 k) re dr).2.2.1==0 with
 | true =>
  rw [h1] at h
  simp only [cond_true,Option.some.injEq] at h
  subst h
  refine ⟨fun p hp=>List.mem_append.2 (.inl hp),fun j hj=>?_⟩
  have:=hj ((i:Int),(k:Int),()) (List.mem_append.2 (.inr (List.mem_singleton.2 rfl)))
  have n1:¬ j=i:=fun e=>this.1 (by show (i:Int)=(j:Int);omega)
  have n2:¬ j=k:=fun e=>this.2 (by show (k:Int)=(j:Int);omega)
  show V2 (Bb7 (Bb7 s.1 i _) k _) j=_
  rw [Bdk n2,Bdk n1]
 | false =>
  rw [h1,cond_false] at h
  cases h2:(Bbm (bAt l s.1 i) (bAt l s.1 k) re dr).2.2.1==4 with
  | true=>rw [h2] at h;simp at h
  | false=>rw [h2] at h;simp only [cond_false,Option.some.injEq] at h;subst h;exact .refl
theorem Clp {l:List (TCT Fq)} {re dr:Int} {i:Nat}:∀ (f k:Nat) (s s':SS),V.inR l re dr i f k s=some s'→UN s s'
 | 0,k,s,s',h=>by rw [V.inR,Option.some.injEq] at h;subst h;exact .refl
 | f+1,k,s,s',h=>by
  rw [V.inR] at h
  cases h1:Bdp l re dr i k s with
  | none=>rw [h1] at h;simp at h
  | some s1 =>
   rw [h1,Option.bind_some] at h
   exact (Clo h1).trans (Clp f (k+1) s1 s' h)
theorem Car {l:List (TCT Fq)} {re dr:Int}:∀ (f i:Nat) (s s':SS),Bfr l re dr f i s=some s'→UN s s'
 | 0,i,s,s',h=>by rw [Biz,Option.some.injEq] at h;subst h;exact .refl
 | f+1,i,s,s',h=>by
  rw [Bh5] at h
  cases h1:V.inR l re dr i (l.length-(i+1)) (i+1) s with
  | none=>rw [h1] at h;simp at h
  | some s1 =>
   rw [h1,Option.bind_some] at h
   exact (Clp _ _ _ _ h1).trans (Car f (i+1) s1 s' h)
theorem Bx8 {l:List (TCT Fq)} {s:Baj} {re dr:Int} (h:(Bbr l s re dr).2.2.1=0):∀ k:Nat,(∀ p ∈ (Bbr l s re dr).2.1,¬ p.1=(k:Int)∧¬ p.2.1=(k:Int))→V2 (Bbr l s re dr).1 k=V2 s k:=by
 unfold Bbr at h ⊢
 cases h1:Bjh l s != 0 with
 | true=>rw [h1,cond_true] at h;exact absurd h (bne_iff_ne.1 h1)
 | false =>
  rw [h1,cond_false] at h
  simp only [cond_false]
  cases h2:!Bfj re dr with
  | true=>rw [h2] at h;cases h
  | false =>
   rw [h2,cond_false] at h
   simp only [cond_false]
   cases h3:Bfr l re dr l.length 0 (s,[]) with
   | none=>rw [h3] at h;cases h
   | some s'=>exact (Car _ _ _ _ h3).2
theorem Clq {W:List Int} {P:Prs} {t st:Int}:∀ (k i:Nat) (ks:Kns),i+k=P.length→∃ l:Kns,unE (Bat (kpE W P t st) i k ks)=ks++l∧(∀ x ∈ l,∃ p ∈ P,x=knP t st W p)∧∀ j,i≤j→j<P.length→knP t st W (Biy P j) ∈ l
 | 0,i,ks,h=>⟨[],(List.append_nil ks).symm,(fun x hx=>nomatch hx),fun j h1 h2=>by omega⟩
 | k+1,i,ks,h=>by
  obtain ⟨l,e1,e2,e3⟩:=Clq (W:=W) (P:=P) (t:=t) (st:=st) k (i+1) (ks++[knP t st W (Biy P i)]) (by omega)
  refine ⟨knP t st W (Biy P i)::l,?_,fun x hx=>?_,fun j h1 h2=>?_⟩
  ·show unE (Bat (kpE W P t st) (i+1) k (ks++[knP t st W (Biy P i)]))=_
   rw [e1,List.append_assoc];rfl
  ·rcases List.mem_cons.1 hx with rfl | hx
   ·exact ⟨_,Bdn (by omega) _,rfl⟩
   ·exact e2 x hx
  ·by_cases e:j=i
   ·rw [e];exact List.mem_cons_self
   ·exact List.mem_cons_of_mem _ (e3 j (by omega) h2)
theorem C2t {a:Int} {i:Nat} (h:a=(i:Int)):Int.toNat a=i:=by omega
theorem C2u {a:Int} {i:Nat} (h0:0≤a) (h:Int.toNat a=i):a=(i:Int):=by omega
theorem Bzb {W:List Int} {M ms:Baj} {i:Nat}:∀ (k j:Nat) (x:Baj),j+k=W.length→(∀ k',k'<W.length→Int.toNat (Bav W k' (Bas cI))=i→V2 M k'=V2 ms i)→V2 x i=V2 ms i→V2 (unE (Bat (scE W M) j k x)) i=V2 ms i
 | 0,_,_,_,_,h=>h
 | k+1,j,x,hk,hw,h=>by
  show V2 (unE (Bat (scE W M) (j+1) k (Bb7 x (Int.toNat (Bav W j (Bas cI))) (V2 M j)))) i=_
  refine Bzb k (j+1) _ (by omega) hw ?_
  by_cases e:i=Int.toNat (Bav W j (Bas cI))
  ·show Bav (Bb7 x (Int.toNat (Bav W j (Bas cI))) (V2 M j)) i (Bas Baq)=V2 ms i
   rcases Bhg (d:=Bas Baq) x (Int.toNat (Bav W j (Bas cI))) i (V2 M j) with e2 | e2
   ·rw [e2];exact hw j (by omega) e.symm
   ·rw [e2];exact h
  ·rw [Bdk e];exact h
theorem Cas {bl:List (TCT Fq)} {c:TCT Bbv} {t st w fl:Int} {n i:Nat} {s:S2} {r:Baj×Kns} (hn8:n≤8) (h:seF bl c t st w fl n s=.inl r):REL i s (r.1,s.2.1,r.2):=by
 unfold seF at h
 cases he:(seS bl c w fl n s).2.2.1 != 0 with
 | true=>rw [he] at h;cases h
 | false =>
  rw [he] at h
  cases h
  have e0:=bne_eq_false_iff_eq.1 he
  have hG:InvH s.1 s.2.1 n n (seG bl w fl n s):=Bte
  have hS:=Bpn hn8 e0
  obtain ⟨l,k1,k2,k3⟩:=Clq (W:=(seG bl w fl n s).1) (P:=(seS bl c w fl n s).2.1) (t:=t) (st:=st) (seS bl c w fl n s).2.1.length 0 s.2.2 (by omega)
  have hk:kpV (seG bl w fl n s).1 (seS bl c w fl n s).2.1 t st s.2.2=s.2.2++l:=k1
  have hball:∀ a:Int,0≤a→a<((seG bl w fl n s).1.length:Int)→0≤Bav (seG bl w fl n s).1 (Int.toNat a) (Bas cI)∧Bbu s.2.1 (Int.toNat (Bav (seG bl w fl n s).1 (Int.toNat a) (Bas cI)))=false:=fun a h0 h1=>by
   have hlt:Int.toNat a<(seG bl w fl n s).1.length:=by omega
   exact ⟨(hG.g.r _ (Bdn hlt (Bas cI))).1,(hG.h _ hlt).2⟩
  refine ⟨fun e=>?_,fun e=>⟨e,?_,?_⟩,fun e f=>⟨?_,rfl⟩⟩
  ·show tcB i (kpV _ _ _ _ _)=true
   rw [hk];exact Brr e
  ·have:V2 (scV (seG bl w fl n s).1 (seS bl c w fl n s).1 s.1) i=V2 s.1 i:=Bzb (ms:=s.1) (seG bl w fl n s).1.length 0 s.1 (by omega) (fun k' hk' e2=>by
    have:=(hG.h k' hk').2
    rw [e2,show Bbu s.2.1 i=true from e] at this
    cases this) rfl
   show (V2 (scV _ _ _) i).1=_
   rw [this]
  ·show tcB i (kpV _ _ _ _ _)=_
   rw [hk,Bln]
   have:tcB i l=false:=by
    unfold tcB
    rw [List.any_eq_false]
    intro x hx
    obtain ⟨p,hp,rfl⟩:=k2 x hx
    have pr:Bpm (seG bl w fl n s).1.length p:=hS.2.2 p hp
    have b1:=hball p.1 pr.1 (Int.lt_trans pr.2.1 pr.2.2)
    have b2:=hball p.2.1 (Int.le_of_lt (Int.lt_of_le_of_lt pr.1 pr.2.1)) pr.2.2
    unfold tcK knP kn
    intro hc
    simp only [Bool.or_eq_true,Bool.and_eq_true,beq_iff_eq] at hc
    rcases hc with hc | hc
    ·have e2:Int.toNat (Bav (seG bl w fl n s).1 (Int.toNat p.1) (Bas cI))=i:=C2t hc
     rw [e2,show Bbu s.2.1 i=true from e] at b1
     cases b1.2
    ·have e2:Int.toNat (Bav (seG bl w fl n s).1 (Int.toNat p.2.1) (Bas cI))=i:=C2t hc.2
     rw [e2,show Bbu s.2.1 i=true from e] at b2
     cases b2.2
   rw [this,Bool.or_false]
  ·have f':tcB i (s.2.2++l)=false:=by rw [← hk];exact f
   rw [Bln,Bool.or_eq_false_iff] at f'
   refine Bzb (ms:=s.1) (seG bl w fl n s).1.length 0 s.1 (by omega) (fun k' hk' e2=>?_) rfl
   have g1:=(hG.h k' hk').1
   rw [e2] at g1
   rw [← g1]
   refine Bx8 e0 k' fun p hp=>?_
   have pr:Bpm (seG bl w fl n s).1.length p:=hS.2.2 p hp
   obtain ⟨q,hq,hpq⟩:∃ q,q<(seS bl c w fl n s).2.1.length∧Biy (seS bl c w fl n s).2.1 q=p:=by
    obtain ⟨q,hq,e⟩:=List.getElem_of_mem hp
    exact ⟨q,hq,(Bdb hq (Bas Bfk)).trans e⟩
   have hx:=k3 q (Nat.zero_le _) hq
   rw [hpq] at hx
   have nt:¬ tcK i (knP t st (seG bl w fl n s).1 p)=true:=by
    have:=f'.2
    unfold tcB at this
    rw [List.any_eq_false] at this
    exact this _ hx
   have hr:=(hG.g.r _ (Bdn hk' (Bas cI))).1
   refine ⟨fun e3=>nt ?_,fun e3=>nt ?_⟩
   ·unfold tcK knP kn
    simp only [Bool.or_eq_true,beq_iff_eq]
    refine .inl ?_
    rw [e3,show Int.toNat (k':Int)=k' from rfl]
    exact C2u hr e2
   ·unfold tcK knP kn
    simp only [Bool.or_eq_true,Bool.and_eq_true,beq_iff_eq]
    refine .inr ⟨trivial,?_⟩
    rw [e3,show Int.toNat (k':Int)=k' from rfl]
    exact C2u hr e2
end St
end V
end Go.Proofs.YtcfanlgpkefogaaGreat
namespace Go.Proofs.YtcfanlgpkefogaaGreat
open Go.RowKit
namespace V
namespace St
theorem Csm {bl:TCT Fq} {c:TCT Bbv} {ps:Dss} {os:List Bool} {w fl t st:Int} {i j k:Nat} {s:MK}:(∀ s',bpE bl c ps os w fl t st j k s=.inl s'→REL i (s.1,os,s.2) (s'.1,os,s'.2))∧(∀ s',bpE bl c ps os w fl t st j k s=.inr (.inl s')→s'=s):=by
 unfold bpE
 cases h1:Bbo s.1 os j with
 | false=>exact ⟨(fun s' h=>by cases h),(fun s' h=>by cases h;rfl)⟩
 | true =>
  cases h0:Bck w fl j with
  | true=>exact ⟨(fun s' h=>by cases h),(fun s' h=>by cases h;rfl)⟩
  | false =>
   simp only [Bool.not_true,Bool.or_self,cond_false]
   cases h2:(bmV bl (V2 s.1 j) (Bdh ps k) c).2.1==0 with
   | true =>
    refine ⟨(fun s' h=>?_),(fun s' h=>by cases h)⟩
    cases h
    exact REL.roll h1 Brr (fun hn=>by rw [Bln,Cwk rfl hn,Bool.or_false])
   | false =>
    simp only [cond_false]
    cases h3:(bmV bl (V2 s.1 j) (Bdh ps k) c).2.1==4 with
    | true=>exact ⟨(fun s' h=>by cases h),(fun s' h=>by cases h)⟩
    | false=>exact ⟨(fun s' h=>by cases h;exact .refl),(fun s' h=>by cases h)⟩
theorem Cat {bl:TCT Fq} {c:TCT Bbv} {ps:Dss} {os:List Bool} {w fl t st:Int} {i j:Nat}:∀ (m k:Nat) (s s':MK),Bt7 (Bat (bpE bl c ps os w fl t st j) k m s)=.inl s'→REL i (s.1,os,s.2) (s'.1,os,s'.2)
 | 0,k,s,s',h=>by cases h;exact .refl
 | m+1,k,s,s',h=>by
  unfold Bat at h
  have a:=Csm (bl:=bl) (c:=c) (ps:=ps) (os:=os) (w:=w) (fl:=fl) (t:=t) (st:=st) (i:=i) (j:=j) (k:=k) (s:=s)
  cases hf:bpE bl c ps os w fl t st j k s with
  | inl t1=>rw [hf] at h;exact (a.1 t1 hf).trans (Cat m (k+1) t1 s' h)
  | inr y =>
   rw [hf] at h
   cases y with
   | inl t1 =>
    have e:=a.2 t1 hf
    subst e
    cases h
    exact .refl
   | inr e=>cases h
theorem Csn {bl:List (TCT Fq)} {c:TCT Bbv} {ps:Dss} {t st w fl:Int} {n i:Nat} {s:S2} {s':MK} (h:buF bl c ps t st w fl n s=.inl s'):REL i s (s'.1,s.2.1,s'.2):=by
 unfold buF at h
 exact Bax (n:=n) (Inv:=fun _ (x:MK)=>REL i s (x.1,s.2.1,x.2)) (fun j x x' _ hx h2=>hx.trans (Cat ps.length 0 x x' h2)) n 0 (s.1,s.2.2) s' (by omega) .refl h
theorem Cso {bl:List (TCT Fq)} {l:TCT Bam} {t st:Int} {n i:Nat} {s s':S2} (h:mvF bl l t st n s=.inl s'):REL i s s':=by
 unfold mvF at h
 cases h1:Bat (stE bl s.2.1) 0 n s.1 with
 | inr e=>rw [h1] at h;cases h
 | inl ms =>
  rw [h1] at h
  have a:REL i s (ms,s.2.1,s.2.2):=Bax (n:=n) (Inv:=fun _ (x:Baj)=>REL i s (x,s.2.1,s.2.2)) (fun j x x' _ hx h2=>hx.trans (Csk h2)) n 0 s.1 ms (by omega) .refl h1
  have h2:Bat (lvE l t st) 0 n (ms,s.2.1,s.2.2)=.inl s':=h
  exact Bax (n:=n) (Inv:=fun _ (x:S2)=>REL i s x) (fun j x x' _ hx h3=>hx.trans (Csl h3)) n 0 (ms,s.2.1,s.2.2) s' (by omega) a h2
theorem Csp {k:CT} {i j:Nat} {s s':S2} (hn8:k.bl.length≤8) (h:tkE k j s=.inl s'):REL i s s':=by
 unfold tkE at h
 cases h1:mvF k.bl k.l k.t ((j+1:Nat):Int) k.bl.length s with
 | inr e=>rw [h1] at h;cases h
 | inl s1 =>
  rw [h1] at h
  simp only at h
  have a:REL i s s1:=Cso h1
  cases h2:seF k.bl k.c k.t ((j+1:Nat):Int) k.w k.fl k.bl.length s1 with
  | inr e=>rw [h2] at h;cases h
  | inl s2 =>
   rw [h2] at h
   simp only at h
   have b:REL i s1 (s2.1,s1.2.1,s2.2):=Cas hn8 h2
   cases h3:buF k.bl k.c k.ps k.t ((j+1:Nat):Int) k.w k.fl k.bl.length (s2.1,s1.2.1,s2.2) with
   | inr e=>rw [h3] at h;cases h
   | inl s3 =>
    rw [h3] at h
    cases h
    have d:REL i (s2.1,s1.2.1,s2.2) (s3.1,s1.2.1,s3.2):=Csn h3
    exact (a.trans b).trans d
theorem Cau {k:CT} {i:Nat} {s s':S2} (hn8:k.bl.length≤8) (h:tkF k s=.inl s'):REL i s s':=by
 unfold tkF at h
 cases h0:k.t==4000 with
 | true=>rw [h0] at h;cases h
 | false =>
  rw [h0] at h
  simp only [cond_false] at h
  cases h1:Bat (slE k.l s.2.1 k.w k.fl) 0 k.bl.length s.1 with
  | inr e=>rw [h1] at h;cases h
  | inl ms =>
   rw [h1] at h
   have a:REL i s (ms,s.2.1,s.2.2):=Bax (n:=k.bl.length) (Inv:=fun _ (x:Baj)=>REL i s (x,s.2.1,s.2.2)) (fun j x x' _ hx h2=>hx.trans (Csj h2)) k.bl.length 0 s.1 ms (by omega) .refl h1
   have h2:Bat (tkE k) 0 16 (ms,s.2.1,s.2.2)=.inl s':=h
   exact Bax (n:=16) (Inv:=fun _ (x:S2)=>REL i s x) (fun j x x' _ hx h3=>hx.trans (Csp hn8 h3)) 16 0 (ms,s.2.1,s.2.2) s' (by omega) a h2
def AS (ms:Baj):Prop:=∀ j:Nat,Bdo (V2 ms j)=true
theorem AS.roll {ms:Baj} {os:List Bool} {j:Nat} (h:AS ms):Bbo ms os j=false:=by
 cases hr:Bbo ms os j with
 | false=>rfl
 | true =>
  have:=(Caq hr).2
  rw [h j] at this
  cases this
structure NH (s s':S2):Prop where
 m:∀ j:Nat,V2 s'.1 j=V2 s.1 j
 o:s'.2.1=s.2.1
 k:s'.2.2=s.2.2
theorem NH.refl {s:S2}:NH s s:=⟨fun _=>rfl,rfl,rfl⟩
theorem NH.trans {a b c:S2} (h:NH a b) (k:NH b c):NH a c:=⟨fun j=>(k.m j).trans (h.m j),k.o.trans h.o,k.k.trans h.k⟩
theorem NH.as {a b:S2} (h:NH a b) (k:AS a.1):AS b.1:=fun j=>by rw [h.m j];exact k j
theorem NH.ol {a b:S2} {l:TCT Bam} {n:Nat} (h:NH a b) (k:OL l n a.1 a.2.1):OL l n b.1 b.2.1:=fun j hj e=>by
 rw [h.m j];rw [h.o] at e;exact k j hj e
end St
end V
end Go.Proofs.YtcfanlgpkefogaaGreat
