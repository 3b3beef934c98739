import Derived.Test.YtcfanlgpkefogaaGreatEr
namespace Go.Proofs.YtcfanlgpkefogaaGreat
open Go.RowKit
namespace V
namespace St
def tcK (i:Nat) (k:TCT cKn):Bool:=k.2.2.2.1==(i:Int)||(k.2.2.1==0&&k.2.2.2.2.1==(i:Int))
def tcB (i:Nat) (ks:Kns):Bool:=ks.any (tcK i)
theorem Bmm {i:Nat} {a b:Kns}:tcB i (a++b)=(tcB i a||tcB i b):=List.any_append
structure REL (i:Nat) (s s':S2):Prop where
 r0:tcB i s.2.2=true→tcB i s'.2.2=true
 r1:Bbs s.2.1 i=true→Bbs s'.2.1 i=true∧(Bag s'.1 i).1=(Bag s.1 i).1∧tcB i s'.2.2=tcB i s.2.2
 r2:Bf0 (Bag s.1 i)=true→tcB i s'.2.2=false→Bag s'.1 i=Bag s.1 i∧Bbs s'.2.1 i=Bbs s.2.1 i
theorem REL.refl {i:Nat} {s:S2}:REL i s s:=⟨id,fun h=>⟨h,rfl,rfl⟩,fun _ _=>⟨rfl,rfl⟩⟩
theorem REL.trans {i:Nat} {a b c:S2} (h:REL i a b) (k:REL i b c):REL i a c:=by
 refine ⟨fun e=>k.r0 (h.r0 e),fun e=>?_,fun e f=>?_⟩
 ·obtain ⟨x1,x2,x3⟩:=h.r1 e
  obtain ⟨y1,y2,y3⟩:=k.r1 x1
  exact ⟨y1,y2.trans x2,y3.trans x3⟩
 ·have hb:tcB i b.2.2=false:=by
   cases hc:tcB i b.2.2 with
   | false=>rfl
   | true=>rw [k.r0 hc] at f;cases f
  obtain ⟨x1,x2⟩:=h.r2 e hb
  obtain ⟨y1,y2⟩:=k.r2 (by rw [x1];exact e) f
  exact ⟨y1.trans x1,y2.trans x2⟩
theorem Bd4 {l:Bal} {i j:Nat} {x:TCT Bat} (h:¬ j=i):Bag (Bba l i x) j=Bag l j:=by
 unfold Bag
 rcases Bia (d:=Baj Bat) l i j x with e | e
 ·rw [Bbl,Bda,Bda,List.getD_eq_getElem?_getD,List.getD_eq_getElem?_getD,List.getElem?_set,if_neg (fun e=>h e.symm)]
 ·exact e
theorem Bz0 {l:List Bool} {i j:Nat} {x:Bool} (h:¬ j=i):Bbs (Bba l i x) j=Bbs l j:=by
 unfold Bbs
 rw [Bbl,Bda,Bda,List.getD_eq_getElem?_getD,List.getD_eq_getElem?_getD,List.getElem?_set,if_neg (fun e=>h e.symm)]
theorem Ceo {ms:Bal} {os:List Bool} {i:Nat} (h:Bbu ms os i=true):Bbs os i=false∧Bf0 (Bag ms i)=false:=by
 unfold Bbu at h
 rw [Bool.and_eq_true,Cdc] at h
 unfold Bbs Bag
 exact ⟨by simpa using h.1,by simpa using h.2⟩
theorem REL.roll {i j:Nat} {ms:Bal} {os:List Bool} {ks ks':Kns} {x:TCT Bat} (h:Bbu ms os j=true) (hk:tcB i ks=true→tcB i ks'=true) (hn:¬ i=j→tcB i ks'=tcB i ks):REL i (ms,os,ks) (Bba ms j x,os,ks'):=by
 obtain ⟨h1,h2⟩:=Ceo h
 refine ⟨hk,fun e=>?_,fun e f=>?_⟩
 ·by_cases k:i=j
  ·subst k;rw [show Bbs os i=true from e] at h1;cases h1
  ·exact ⟨e,by show (Bag (Bba ms j x) i).1=_;rw [Bd4 k],hn k⟩
 ·by_cases k:i=j
  ·subst k;rw [show Bf0 (Bag ms i)=true from e] at h2;cases h2
  ·exact ⟨Bd4 k,rfl⟩
theorem Cxy {l:TCT Ban} {os:List Bool} {w fl:Int} {i j:Nat} {ms ms':Bal} {ks:Kns} (h:slE l os w fl j ms=.inl ms'):REL i (ms,os,ks) (ms',os,ks):=by
 unfold slE at h
 cases h1:Bbu ms os j with
 | false=>rw [h1] at h;cases h;exact .refl
 | true =>
  rw [h1] at h
  cases h0:Bdb w fl j with
  | true=>rw [h0] at h;cases h;exact .refl
  | false =>
   rw [h0] at h
   cases h2:Be9 l (Bag ms j).1 != 0 with
   | true=>rw [h2] at h;cases h
   | false =>
    rw [h2] at h
    cases h3:(Bi9 l (Bag ms j)).2.1 != 0 with
    | true=>rw [h3] at h;cases h
    | false=>rw [h3] at h;cases h;exact REL.roll h1 id (fun _=>rfl)
theorem Cxz {bl:List (TCT No)} {os:List Bool} {i j:Nat} {ms ms':Bal} {ks:Kns} (h:stE bl os j ms=.inl ms'):REL i (ms,os,ks) (ms',os,ks):=by
 unfold stE at h
 cases h1:Bbu ms os j with
 | false=>rw [h1] at h;cases h;exact .refl
 | true =>
  rw [h1] at h
  cases h3:(Bja (Bch bl j) (Bag ms j)).2.1 != 0 with
  | true=>rw [h3] at h;cases h
  | false=>rw [h3] at h;cases h;exact REL.roll h1 id (fun _=>rfl)
theorem D2j {i j:Nat} {t st k o:Int} (hk:(k==0)=false) (h:¬ i=j):tcB i [kn t st k (j:Int) o]=false:=by
 show (tcK i (kn t st k (j:Int) o)||false)=false
 unfold tcK kn
 rw [hk,Bool.false_and,Bool.or_false,Bool.or_false]
 exact beq_eq_false_iff_ne.2 (by show ¬ (j:Int)=(i:Int);omega)
theorem Bt5 {i:Nat} {a b:Kns} (h:tcB i a=true):tcB i (a++b)=true:=by rw [Bmm,h];rfl
theorem Cy0 {l:TCT Ban} {t st:Int} {i j:Nat} {s s':S2} (h:lvE l t st j s=.inl s'):REL i s s':=by
 unfold lvE at h
 cases h1:Bam s.2.1 j (Baj .b) with
 | true=>rw [h1] at h;cases h;exact .refl
 | false =>
  rw [h1] at h
  cases h2:onB l (Bag s.1 j).1 with
  | true=>rw [h2] at h;cases h;exact .refl
  | false =>
   rw [h2] at h
   cases h
   by_cases k:i=j
   ·subst k
    refine ⟨Bt5,fun e=>?_,fun e f=>?_⟩
    ·unfold Bbs at e;rw [h1] at e;cases e
    ·have:tcB i (s.2.2++[kn t st 2 (i:Int) 0])=true:=by
      rw [Bmm]
      have:tcB i [kn t st 2 (i:Int) 0]=true:=by
       show (tcK i (kn t st 2 (i:Int) 0)||false)=true
       unfold tcK kn
       rw [beq_self_eq_true];rfl
      rw [this,Bool.or_true]
     rw [show tcB i (s.2.2++[kn t st 2 (i:Int) 0])=false from f] at this
     cases this
   ·refine ⟨Bt5,fun e=>⟨?_,?_,?_⟩,fun e f=>⟨?_,?_⟩⟩
    ·show Bbs (Bba s.2.1 j true) i=true;rw [Bz0 k];exact e
    ·show (Bag (Bba s.1 j _) i).1=_;rw [Bd4 k]
    ·show tcB i (s.2.2++[_])=_;rw [Bmm,D2j rfl k,Bool.or_false]
    ·exact Bd4 k
    ·exact Bz0 k
def UN (s s':SS):Prop:=(∀ p ∈ s.2,p ∈ s'.2)∧∀ k:Nat,(∀ p ∈ s'.2,¬ p.1=(k:Int)∧¬ p.2.1=(k:Int))→Bag s'.1 k=Bag s.1 k
theorem UN.refl {s:SS}:UN s s:=⟨fun _ h=>h,fun _ _=>rfl⟩
theorem UN.trans {a b c:SS} (h:UN a b) (k:UN b c):UN a c:=⟨fun p hp=>k.1 p (h.1 p hp),fun j hj=>(k.2 j hj).trans (h.2 j fun p hp=>hj p (k.1 p hp))⟩
theorem Cq4 {l:List (TCT No)} {re dr:Int} {i k:Nat} {s s':SS} (h:Bds l re dr i k s=some s'):UN s s':=by
 unfold Bds at h
 cases h1:(Bbi (bAt l s.1 i) (bAt l s.1 k) re dr).2.2.1==0 with
 | true =>
  rw [h1] at h
  simp only [cond_true,Option.some.injEq] at h
  subst h
  refine ⟨fun p hp=>List.mem_append.2 (.inl hp),fun j hj=>?_⟩
  have:=hj ((i:Int),(k:Int),()) (List.mem_append.2 (.inr (List.mem_singleton.2 rfl)))
  have n1:¬ j=i:=fun e=>this.1 (by show (i:Int)=(j:Int);omega)
  have n2:¬ j=k:=fun e=>this.2 (by show (k:Int)=(j:Int);omega)
  show Bag (Bba (Bba s.1 i _) k _) j=_
  rw [Bd4 n2,Bd4 n1]
 | false =>
  rw [h1,cond_false] at h
  cases h2:(Bbi (bAt l s.1 i) (bAt l s.1 k) re dr).2.2.1==4 with
  | true=>rw [h2] at h;simp at h
  | false=>rw [h2] at h;simp only [cond_false,Option.some.injEq] at h;subst h;exact .refl
theorem Cq5 {l:List (TCT No)} {re dr:Int} {i:Nat}:∀ (f k:Nat) (s s':SS),V.inR l re dr i f k s=some s'→UN s s'
 | 0,k,s,s',h=>by rw [V.inR,Option.some.injEq] at h;subst h;exact .refl
 | f+1,k,s,s',h=>by
  rw [V.inR] at h
  cases h1:Bds l re dr i k s with
  | none=>rw [h1] at h;simp at h
  | some s1 =>
   rw [h1,Option.bind_some] at h
   exact (Cq4 h1).trans (Cq5 f (k+1) s1 s' h)
theorem Cep {l:List (TCT No)} {re dr:Int}:∀ (f i:Nat) (s s':SS),Bfk l re dr f i s=some s'→UN s s'
 | 0,i,s,s',h=>by rw [Bjp,Option.some.injEq] at h;subst h;exact .refl
 | f+1,i,s,s',h=>by
  rw [Bhu] at h
  cases h1:V.inR l re dr i (l.length-(i+1)) (i+1) s with
  | none=>rw [h1] at h;simp at h
  | some s1 =>
   rw [h1,Option.bind_some] at h
   exact (Cq5 _ _ _ _ h1).trans (Cep f (i+1) s1 s' h)
theorem Chp {l:List (TCT No)} {s:Bal} {re dr:Int} (h:(Bbn l s re dr).2.2.1=0):∀ k:Nat,(∀ p ∈ (Bbn l s re dr).2.1,¬ p.1=(k:Int)∧¬ p.2.1=(k:Int))→Bag (Bbn l s re dr).1 k=Bag s k:=by
 unfold Bbn at h ⊢
 cases h1:Bjd l s != 0 with
 | true=>rw [h1,cond_true] at h;exact absurd h (bne_iff_ne.1 h1)
 | false =>
  rw [h1,cond_false] at h
  simp only [cond_false]
  cases h2:!Be3 re dr with
  | true=>rw [h2] at h;cases h
  | false =>
   rw [h2,cond_false] at h
   simp only [cond_false]
   cases h3:Bfk l re dr l.length 0 (s,[]) with
   | none=>rw [h3] at h;cases h
   | some s'=>exact (Cep _ _ _ _ h3).2
theorem Cq6 {W:List Int} {P:Prs} {t st:Int}:∀ (k i:Nat) (ks:Kns),i+k=P.length→∃ l:Kns,unE (Bap (kpE W P t st) i k ks)=ks++l∧(∀ x ∈ l,∃ p ∈ P,x=knP t st W p)∧∀ j,i≤j→j<P.length→knP t st W (Bim P j) ∈ l
 | 0,i,ks,h=>⟨[],(List.append_nil ks).symm,(fun x hx=>nomatch hx),fun j h1 h2=>by omega⟩
 | k+1,i,ks,h=>by
  obtain ⟨l,e1,e2,e3⟩:=Cq6 (W:=W) (P:=P) (t:=t) (st:=st) k (i+1) (ks++[knP t st W (Bim P i)]) (by omega)
  refine ⟨knP t st W (Bim P i)::l,?_,fun x hx=>?_,fun j h1 h2=>?_⟩
  ·show unE (Bap (kpE W P t st) (i+1) k (ks++[knP t st W (Bim P i)]))=_
   rw [e1,List.append_assoc];rfl
  ·rcases List.mem_cons.1 hx with rfl | hx
   ·exact ⟨_,Bcl (by omega) _,rfl⟩
   ·exact e2 x hx
  ·by_cases e:j=i
   ·rw [e];exact List.mem_cons_self
   ·exact List.mem_cons_of_mem _ (e3 j (by omega) h2)
theorem C5f {a:Int} {i:Nat} (h:a=(i:Int)):Int.toNat a=i:=by omega
theorem C5g {a:Int} {i:Nat} (h0:0≤a) (h:Int.toNat a=i):a=(i:Int):=by omega
theorem C1m {W:List Int} {M ms:Bal} {i:Nat}:∀ (k j:Nat) (x:Bal),j+k=W.length→(∀ k',k'<W.length→Int.toNat (Bam W k' (Baj cI))=i→Bag M k'=Bag ms i)→Bag x i=Bag ms i→Bag (unE (Bap (scE W M) j k x)) i=Bag ms i
 | 0,_,_,_,_,h=>h
 | k+1,j,x,hk,hw,h=>by
  show Bag (unE (Bap (scE W M) (j+1) k (Bba x (Int.toNat (Bam W j (Baj cI))) (Bag M j)))) i=_
  refine C1m k (j+1) _ (by omega) hw ?_
  by_cases e:i=Int.toNat (Bam W j (Baj cI))
  ·show Bam (Bba x (Int.toNat (Bam W j (Baj cI))) (Bag M j)) i (Baj Bat)=Bag ms i
   rcases Bia (d:=Baj Bat) x (Int.toNat (Bam W j (Baj cI))) i (Bag M j) with e2 | e2
   ·rw [e2];exact hw j (by omega) e.symm
   ·rw [e2];exact h
  ·rw [Bd4 e];exact h
theorem Ceq {bl:List (TCT No)} {c:TCT Bbv} {t st w fl:Int} {n i:Nat} {s:S2} {r:Bal×Kns} (hn8:n≤8) (h:seF bl c t st w fl n s=.inl r):REL i s (r.1,s.2.1,r.2):=by
 unfold seF at h
 cases he:(seS bl c w fl n s).2.2.1 != 0 with
 | true=>rw [he] at h;cases h
 | false =>
  rw [he] at h
  cases h
  have e0:=bne_eq_false_iff_eq.1 he
  have hG:InvH s.1 s.2.1 n n (seG bl w fl n s):=Bv1
  have hS:=Bqr hn8 e0
  obtain ⟨l,k1,k2,k3⟩:=Cq6 (W:=(seG bl w fl n s).1) (P:=(seS bl c w fl n s).2.1) (t:=t) (st:=st) (seS bl c w fl n s).2.1.length 0 s.2.2 (by omega)
  have hk:kpV (seG bl w fl n s).1 (seS bl c w fl n s).2.1 t st s.2.2=s.2.2++l:=k1
  have hball:∀ a:Int,0≤a→a<((seG bl w fl n s).1.length:Int)→0≤Bam (seG bl w fl n s).1 (Int.toNat a) (Baj cI)∧Bbs s.2.1 (Int.toNat (Bam (seG bl w fl n s).1 (Int.toNat a) (Baj cI)))=false:=fun a h0 h1=>by
   have hlt:Int.toNat a<(seG bl w fl n s).1.length:=by omega
   exact ⟨(hG.g.r _ (Bcl hlt (Baj cI))).1,(hG.h _ hlt).2⟩
  refine ⟨fun e=>?_,fun e=>⟨e,?_,?_⟩,fun e f=>⟨?_,rfl⟩⟩
  ·show tcB i (kpV _ _ _ _ _)=true
   rw [hk];exact Bt5 e
  ·have:Bag (scV (seG bl w fl n s).1 (seS bl c w fl n s).1 s.1) i=Bag s.1 i:=C1m (ms:=s.1) (seG bl w fl n s).1.length 0 s.1 (by omega) (fun k' hk' e2=>by
    have:=(hG.h k' hk').2
    rw [e2,show Bbs s.2.1 i=true from e] at this
    cases this) rfl
   show (Bag (scV _ _ _) i).1=_
   rw [this]
  ·show tcB i (kpV _ _ _ _ _)=_
   rw [hk,Bmm]
   have:tcB i l=false:=by
    unfold tcB
    rw [List.any_eq_false]
    intro x hx
    obtain ⟨p,hp,rfl⟩:=k2 x hx
    have pr:Bqq (seG bl w fl n s).1.length p:=hS.2.2 p hp
    have b1:=hball p.1 pr.1 (Int.lt_trans pr.2.1 pr.2.2)
    have b2:=hball p.2.1 (Int.le_of_lt (Int.lt_of_le_of_lt pr.1 pr.2.1)) pr.2.2
    unfold tcK knP kn
    intro hc
    simp only [Bool.or_eq_true,Bool.and_eq_true,beq_iff_eq] at hc
    rcases hc with hc | hc
    ·have e2:Int.toNat (Bam (seG bl w fl n s).1 (Int.toNat p.1) (Baj cI))=i:=C5f hc
     rw [e2,show Bbs s.2.1 i=true from e] at b1
     cases b1.2
    ·have e2:Int.toNat (Bam (seG bl w fl n s).1 (Int.toNat p.2.1) (Baj cI))=i:=C5f hc.2
     rw [e2,show Bbs s.2.1 i=true from e] at b2
     cases b2.2
   rw [this,Bool.or_false]
  ·have f':tcB i (s.2.2++l)=false:=by rw [← hk];exact f
   rw [Bmm,Bool.or_eq_false_iff] at f'
   refine C1m (ms:=s.1) (seG bl w fl n s).1.length 0 s.1 (by omega) (fun k' hk' e2=>?_) rfl
   have g1:=(hG.h k' hk').1
   rw [e2] at g1
   rw [← g1]
   refine Chp e0 k' fun p hp=>?_
   have pr:Bqq (seG bl w fl n s).1.length p:=hS.2.2 p hp
   obtain ⟨q,hq,hpq⟩:∃ q,q<(seS bl c w fl n s).2.1.length∧Bim (seS bl c w fl n s).2.1 q=p:=by
    obtain ⟨q,hq,e⟩:=List.getElem_of_mem hp
    exact ⟨q,hq,(Bby hq (Baj Bek)).trans e⟩
   have hx:=k3 q (Nat.zero_le _) hq
   rw [hpq] at hx
   have nt:¬ tcK i (knP t st (seG bl w fl n s).1 p)=true:=by
    have:=f'.2
    unfold tcB at this
    rw [List.any_eq_false] at this
    exact this _ hx
   have hr:=(hG.g.r _ (Bcl hk' (Baj cI))).1
   refine ⟨fun e3=>nt ?_,fun e3=>nt ?_⟩
   ·unfold tcK knP kn
    simp only [Bool.or_eq_true,beq_iff_eq]
    refine .inl ?_
    rw [e3,show Int.toNat (k':Int)=k' from rfl]
    exact C5g hr e2
   ·unfold tcK knP kn
    simp only [Bool.or_eq_true,Bool.and_eq_true,beq_iff_eq]
    refine .inr ⟨trivial,?_⟩
    rw [e3,show Int.toNat (k':Int)=k' from rfl]
    exact C5g hr e2
end St
end V
end Go.Proofs.YtcfanlgpkefogaaGreat
namespace Go.Proofs.YtcfanlgpkefogaaGreat
open Go.RowKit
namespace V
namespace St
theorem Cy1 {bl:TCT No} {c:TCT Bbv} {ps:Dss} {os:List Bool} {w fl t st:Int} {i j k:Nat} {s:MK}:(∀ s',bpE bl c ps os w fl t st j k s=.inl s'→REL i (s.1,os,s.2) (s'.1,os,s'.2))∧(∀ s',bpE bl c ps os w fl t st j k s=.inr (.inl s')→s'=s):=by
 unfold bpE
 cases h1:Bbu s.1 os j with
 | false=>exact ⟨(fun s' h=>by cases h),(fun s' h=>by cases h;rfl)⟩
 | true =>
  cases h0:Bdb w fl j with
  | true=>exact ⟨(fun s' h=>by cases h),(fun s' h=>by cases h;rfl)⟩
  | false =>
   simp only [Bool.not_true,Bool.or_self,cond_false]
   cases h2:(bmV bl (Bag s.1 j) (Bd3 ps k) c).2.1==0 with
   | true =>
    refine ⟨(fun s' h=>?_),(fun s' h=>by cases h)⟩
    cases h
    exact REL.roll h1 Bt5 (fun hn=>by rw [Bmm,D2j rfl hn,Bool.or_false])
   | false =>
    simp only [cond_false]
    cases h3:(bmV bl (Bag s.1 j) (Bd3 ps k) c).2.1==4 with
    | true=>exact ⟨(fun s' h=>by cases h),(fun s' h=>by cases h)⟩
    | false=>exact ⟨(fun s' h=>by cases h;exact .refl),(fun s' h=>by cases h)⟩
theorem Cer {bl:TCT No} {c:TCT Bbv} {ps:Dss} {os:List Bool} {w fl t st:Int} {i j:Nat}:∀ (m k:Nat) (s s':MK),Bsr (Bap (bpE bl c ps os w fl t st j) k m s)=.inl s'→REL i (s.1,os,s.2) (s'.1,os,s'.2)
 | 0,k,s,s',h=>by cases h;exact .refl
 | m+1,k,s,s',h=>by
  unfold Bap at h
  have a:=Cy1 (bl:=bl) (c:=c) (ps:=ps) (os:=os) (w:=w) (fl:=fl) (t:=t) (st:=st) (i:=i) (j:=j) (k:=k) (s:=s)
  cases hf:bpE bl c ps os w fl t st j k s with
  | inl t1=>rw [hf] at h;exact (a.1 t1 hf).trans (Cer m (k+1) t1 s' h)
  | inr y =>
   rw [hf] at h
   cases y with
   | inl t1 =>
    have e:=a.2 t1 hf
    subst e
    cases h
    exact .refl
   | inr e=>cases h
theorem Cy2 {bl:List (TCT No)} {c:TCT Bbv} {ps:Dss} {t st w fl:Int} {n i:Nat} {s:S2} {s':MK} (h:buF bl c ps t st w fl n s=.inl s'):REL i s (s'.1,s.2.1,s'.2):=by
 unfold buF at h
 exact Bay (n:=n) (Inv:=fun _ (x:MK)=>REL i s (x.1,s.2.1,x.2)) (fun j x x' _ hx h2=>hx.trans (Cer ps.length 0 x x' h2)) n 0 (s.1,s.2.2) s' (by omega) .refl h
theorem Cy3 {bl:List (TCT No)} {l:TCT Ban} {t st:Int} {n i:Nat} {s s':S2} (h:mvF bl l t st n s=.inl s'):REL i s s':=by
 unfold mvF at h
 cases h1:Bap (stE bl s.2.1) 0 n s.1 with
 | inr e=>rw [h1] at h;cases h
 | inl ms =>
  rw [h1] at h
  have a:REL i s (ms,s.2.1,s.2.2):=Bay (n:=n) (Inv:=fun _ (x:Bal)=>REL i s (x,s.2.1,s.2.2)) (fun j x x' _ hx h2=>hx.trans (Cxz h2)) n 0 s.1 ms (by omega) .refl h1
  have h2:Bap (lvE l t st) 0 n (ms,s.2.1,s.2.2)=.inl s':=h
  exact Bay (n:=n) (Inv:=fun _ (x:S2)=>REL i s x) (fun j x x' _ hx h3=>hx.trans (Cy0 h3)) n 0 (ms,s.2.1,s.2.2) s' (by omega) a h2
theorem Cy4 {k:CT} {i j:Nat} {s s':S2} (hn8:k.bl.length≤8) (h:tkE k j s=.inl s'):REL i s s':=by
 unfold tkE at h
 cases h1:mvF k.bl k.l k.t ((j+1:Nat):Int) k.bl.length s with
 | inr e=>rw [h1] at h;cases h
 | inl s1 =>
  rw [h1] at h
  simp only at h
  have a:REL i s s1:=Cy3 h1
  cases h2:seF k.bl k.c k.t ((j+1:Nat):Int) k.w k.fl k.bl.length s1 with
  | inr e=>rw [h2] at h;cases h
  | inl s2 =>
   rw [h2] at h
   simp only at h
   have b:REL i s1 (s2.1,s1.2.1,s2.2):=Ceq hn8 h2
   cases h3:buF k.bl k.c k.ps k.t ((j+1:Nat):Int) k.w k.fl k.bl.length (s2.1,s1.2.1,s2.2) with
   | inr e=>rw [h3] at h;cases h
   | inl s3 =>
    rw [h3] at h
    cases h
    have d:REL i (s2.1,s1.2.1,s2.2) (s3.1,s1.2.1,s3.2):=Cy2 h3
    exact (a.trans b).trans d
theorem Cy5 {k:CT} {i:Nat} {s s':S2} (hn8:k.bl.length≤8) (h:tkF k s=.inl s'):REL i s s':=by
 unfold tkF at h
 cases h0:k.t==4000 with
 | true=>rw [h0] at h;cases h
 | false =>
  rw [h0] at h
  simp only [cond_false] at h
  cases h1:Bap (slE k.l s.2.1 k.w k.fl) 0 k.bl.length s.1 with
  | inr e=>rw [h1] at h;cases h
  | inl ms =>
   rw [h1] at h
   have a:REL i s (ms,s.2.1,s.2.2):=Bay (n:=k.bl.length) (Inv:=fun _ (x:Bal)=>REL i s (x,s.2.1,s.2.2)) (fun j x x' _ hx h2=>hx.trans (Cxy h2)) k.bl.length 0 s.1 ms (by omega) .refl h1
   have h2:Bap (tkE k) 0 16 (ms,s.2.1,s.2.2)=.inl s':=h
   exact Bay (n:=16) (Inv:=fun _ (x:S2)=>REL i s x) (fun j x x' _ hx h3=>hx.trans (Cy4 hn8 h3)) 16 0 (ms,s.2.1,s.2.2) s' (by omega) a h2
def AS (ms:Bal):Prop:=∀ j:Nat,Bf0 (Bag ms j)=true
theorem AS.roll {ms:Bal} {os:List Bool} {j:Nat} (h:AS ms):Bbu ms os j=false:=by
 cases hr:Bbu ms os j with
 | false=>rfl
 | true =>
  have:=(Ceo hr).2
  rw [h j] at this
  cases this
structure NH (s s':S2):Prop where
 m:∀ j:Nat,Bag s'.1 j=Bag s.1 j
 o:s'.2.1=s.2.1
 k:s'.2.2=s.2.2
theorem NH.refl {s:S2}:NH s s:=⟨fun _=>rfl,rfl,rfl⟩
theorem NH.trans {a b c:S2} (h:NH a b) (k:NH b c):NH a c:=⟨fun j=>(k.m j).trans (h.m j),k.o.trans h.o,k.k.trans h.k⟩
theorem NH.as {a b:S2} (h:NH a b) (k:AS a.1):AS b.1:=fun j=>by rw [h.m j];exact k j
theorem NH.ol {a b:S2} {l:TCT Ban} {n:Nat} (h:NH a b) (k:OL l n a.1 a.2.1):OL l n b.1 b.2.1:=fun j hj e=>by
 rw [h.m j];rw [h.o] at e;exact k j hj e
end St
end V
end Go.Proofs.YtcfanlgpkefogaaGreat
