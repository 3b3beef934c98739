import Derived.Test.YtcfanlgpkefogaaGreatFk
import Derived.Test.YtcfanlgpkefogaaGreatFh
namespace Go.Proofs.YtcfanlgpkefogaaGreat
open Go.RowKit
namespace V
namespace St
theorem Bli {h:TCT cPt→Int}:∀ (l:Bal) (k:Nat),k<l.length→smP h (l.take (k+1))=smP h (l.take k)+h (Bag l k).2.1
 | [],k,hk=>absurd hk (Nat.not_lt_zero k)
 | m::l,0,_=>by
  show h m.2.1+0=0+h m.2.1
  omega
 | m::l,k+1,hk=>by
  have ih:=Bli (h:=h) l k (by simpa using hk)
  show h m.2.1+smP h (l.take (k+1))=h m.2.1+smP h (l.take k)+h (Bag l k).2.1
  omega
structure InvQ (h:TCT cPt→Int) (W:List Int) (C M ms0:Bal) (k:Nat) (ms:Bal):Prop where
 l:ms.length=ms0.length
 s:smP h ms=smP h ms0+smP h (M.take k)-smP h (C.take k)
 r:∀ j:Nat,k≤j→j<W.length→Bag ms (Int.toNat (Bam W j (Baj cI)))=Bag ms0 (Int.toNat (Bam W j (Baj cI)))
theorem Dbu {a b:Int} (h:0≤a) (k:a<b):¬ Int.toNat b=Int.toNat a:=by omega
theorem D6m {h:TCT cPt→Int} {W:List Int} {C M ms0:Bal} {n:Nat} (hn:ms0.length=n) (hC:C.length=W.length) (hM:M.length=W.length) (hr:∀ w ∈ W,0≤w∧w<(n:Int)) (hg:∀ k:Nat,k<W.length→Bag C k=Bag ms0 (Int.toNat (Bam W k (Baj cI)))) (hs:∀ k k':Nat,k<k'→k'<W.length→Bam W k (Baj cI)<Bam W k' (Baj cI)) (e:smP h M=smP h C):smP h (scV W M ms0)=smP h ms0:=by
 have key:InvQ h W C M ms0 W.length (scV W M ms0):=Bay (n:=W.length) (Inv:=fun i (s:Bal)=>InvQ h W C M ms0 i s) (fun i s s' hi q h2=>by
  cases h2
  have hl:=q.l
  have b:=hr _ (Bcl hi (Baj cI))
  have hj:Int.toNat (Bam W i (Baj cI))<s.length:=by rw [hl,hn];exact Bnd b.1 b.2
  refine ⟨(Bbd _ _ _).trans hl,?_,fun j h1 h2=>?_⟩
  ·have e1:=Bli (h:=h) M i (by rw [hM];exact hi)
   have e2:=Bli (h:=h) C i (by rw [hC];exact hi)
   have e3:=Bmn (h:=h) s (Int.toNat (Bam W i (Baj cI))) (Bag M i) hj
   rw [q.r i (Nat.le_refl _) hi,← hg i hi] at e3
   have e4:=q.s
   omega
  ·have d:=hs i j (by omega) h2
   rw [Bed hj (Dbu b.1 d)]
   exact q.r j (by omega) h2) W.length 0 ms0 _ (by omega) ⟨rfl,by simp,fun _ _ _=>rfl⟩ (Bgh (Bap (scE W M) 0 W.length ms0))
 have:=key.s
 rw [← hM,List.take_length,hM,← hC,List.take_length] at this
 omega
def nbK (x:TCT cKn):Bool:=x.2.2.1 != 0
def MSk (h:TCT cPt→Int) (S:Int) (ms:Bal) (ks:Kns):Prop:=smP h ms=S∨ks.any nbK=true
theorem Cqa {ks l:Kns} (h:ks.any nbK=true):(ks++l).any nbK=true:=by rw [List.any_append,h,Bool.true_or]
theorem Cqb {ks:Kns} {t st k a b:Int} (h:k≠0):(ks++[kn t st k a b]).any nbK=true:=by
 rw [List.any_append]
 have:([kn t st k a b]:Kns).any nbK=true:=by
  show (k != 0||false)=true
  rw [bne_iff_ne.2 h];rfl
 rw [this,Bool.or_true]
theorem D6n {b:TCT No} {m:TCT Bat} (h:(Bja b m).2.1=0):(Bja b m).1.2.1=m.2.1:=by
 have h':(Bhe (bm b m)).2.1=0:=h
 show (Bhe (bm b m)).1.2.1=m.2.1
 unfold Bhe at h' ⊢
 cases h1:(bm b m).ok with
 | false=>rw [h1] at h';cases h'
 | true =>
  rw [h1] at h'
  simp only [Bool.not_true,cond_false] at h' ⊢
  cases h2:fpt (sX (bm b m)) (sY (bm b m)) with
  | false=>rw [h2] at h';cases h'
  | true=>rfl
theorem Cy9 {h:TCT cPt→Int} {bl:List (TCT No)} {os:List Bool} {i:Nat} {ms ms':Bal} (e:stE bl os i ms=.inl ms'):smP h ms'=smP h ms:=by
 unfold stE at e
 cases h1:!Bbu ms os i with
 | true=>rw [h1] at e;cases e;rfl
 | false =>
  rw [h1] at e
  cases h3:(Bja (Bch bl i) (Bag ms i)).2.1 != 0 with
  | true=>rw [h3] at e;cases e
  | false =>
   rw [h3] at e
   cases e
   exact Bp9 (D6n (bne_eq_false_iff_eq.1 h3))
theorem Cya {h:TCT cPt→Int} {S:Int} {l:TCT Ban} {j:Nat} {T st:Int} {s s':S2} (e:lvE l T st j s=.inl s') (q:MSk h S s.1 s.2.2):MSk h S s'.1 s'.2.2:=by
 unfold lvE at e
 cases e1:Bam s.2.1 j (Baj .b) with
 | true=>rw [e1] at e;cases e;exact q
 | false =>
  rw [e1] at e
  cases e2:onB l (Bag s.1 j).1 with
  | true=>rw [e2] at e;cases e;exact q
  | false =>
   rw [e2] at e
   cases e
   exact .inr (Cqb (by decide))
theorem Cyb {h:TCT cPt→Int} {S:Int} {bl:List (TCT No)} {l:TCT Ban} {n:Nat} {T st:Int} {s s':S2} (e:mvF bl l T st n s=.inl s') (q:MSk h S s.1 s.2.2):MSk h S s'.1 s'.2.2:=by
 unfold mvF at e
 cases e1:Bap (stE bl s.2.1) 0 n s.1 with
 | inr x=>rw [e1] at e;cases e
 | inl ms =>
  rw [e1] at e
  have h1:smP h ms=smP h s.1:=Bay (n:=n) (Inv:=fun _ (x:Bal)=>smP h x=smP h s.1) (fun j x x' _ hx h3=>(Cy9 h3).trans hx) n 0 s.1 ms (by omega) rfl e1
  have h2:Bap (lvE l T st) 0 n (ms,s.2.1,s.2.2)=.inl s':=e
  have q1:MSk h S ms s.2.2:=by
   unfold MSk
   rw [h1];exact q
  exact Bay (n:=n) (Inv:=fun _ (x:S2)=>MSk h S x.1 x.2.2) (fun j x x' _ hx h3=>Cya h3 hx) n 0 (ms,s.2.1,s.2.2) s' (by omega) q1 h2
theorem Cqc {W:List Int} {P:Prs} {t st:Int} {ks:Kns} (h:ks.any nbK=true):(kpV W P t st ks).any nbK=true :=
 Bay (n:=P.length) (Inv:=fun _ (x:Kns)=>x.any nbK=true) (fun j x x' _ hx h3=>by cases h3;exact Cqa hx) P.length 0 ks _ (by omega) h (Bgh (Bap (kpE W P t st) 0 P.length ks))
theorem C5i {h:TCT cPt→Int} (p:PartH h) {bl:List (TCT No)} {c:TCT Bbv} {n:Nat} {T st w fl:Int} {s:S2} {r:Bal×Kns} (hm:s.1.length=n) (e:seF bl c T st w fl n s=.inl r):smP h r.1=smP h s.1:=by
 unfold seF at e
 cases he:(seS bl c w fl n s).2.2.1 != 0 with
 | true=>rw [he] at e;cases e
 | false =>
  rw [he] at e
  cases e
  have e0:=bne_eq_false_iff_eq.1 he
  have hG:InvH s.1 s.2.1 n n (seG bl w fl n s):=Bv1
  have hW:InvW n (seG bl w fl n s):=Cq7
  have hb:=hG.g.b
  have hmm:=hG.g.m
  have hz:SM (seG bl w fl n s).2.2:=by
   have e1:(Bbn (seG bl w fl n s).2.1 (seG bl w fl n s).2.2 c.1 c.2.1).2.2.1=0:=e0
   unfold Bbn at e1
   cases h1:Bjd (seG bl w fl n s).2.1 (seG bl w fl n s).2.2 != 0 with
   | true=>rw [h1,cond_true] at e1;exact absurd e1 (bne_iff_ne.1 h1)
   | false =>
    obtain ⟨_,k2,k3⟩:=Cam (bne_eq_false_iff_eq.1 h1)
    exact Ca4 _ _ k2 k3
  obtain ⟨a1,a2⟩:=Ca9 p (l:=(seG bl w fl n s).2.1) (s:=(seG bl w fl n s).2.2) (re:=c.1) (dr:=c.2.1) (by omega) hz e0
  exact D6m (C:=(seG bl w fl n s).2.2) (M:=(seS bl c w fl n s).1) hm hmm (by exact a2.trans hmm) hG.g.r (fun k hk=>(hG.h k hk).1) hW.s a1
theorem Cyc {h:TCT cPt→Int} (p:PartH h) {S:Int} {bl:List (TCT No)} {c:TCT Bbv} {n:Nat} {T st w fl:Int} {s:S2} {r:Bal×Kns} (hm:s.1.length=n) (e:seF bl c T st w fl n s=.inl r) (q:MSk h S s.1 s.2.2):MSk h S r.1 r.2:=by
 have e1:=C5i p hm e
 rcases q with q | q
 ·left
  rw [e1];exact q
 ·right
  unfold seF at e
  cases he:(seS bl c w fl n s).2.2.1 != 0 with
  | true=>rw [he] at e;cases e
  | false =>
   rw [he] at e
   cases e
   exact Cqc q
theorem Cyd {h:TCT cPt→Int} {S:Int} {b:TCT No} {c:TCT Bbv} {ps:Dss} {os:List Bool} {w fl t st:Int} {j k:Nat} {s:MK} (q:MSk h S s.1 s.2):(∀ s',bpE b c ps os w fl t st j k s=.inl s'→MSk h S s'.1 s'.2)∧(∀ s',bpE b c ps os w fl t st j k s=.inr (.inl s')→s'=s):=by
 unfold bpE
 cases e1:!Bbu s.1 os j||Bdb w fl j with
 | true=>exact ⟨(fun s' h=>by cases h),(fun s' h=>by cases h;rfl)⟩
 | false =>
  simp only [cond_false]
  cases e2:(bmV b (Bag s.1 j) (Bd3 ps k) c).2.1==0 with
  | true =>
   refine ⟨(fun s' h=>?_),(fun s' h=>by cases h)⟩
   cases h
   exact .inr (Cqb (by decide))
  | false =>
   simp only [cond_false]
   cases e3:(bmV b (Bag s.1 j) (Bd3 ps k) c).2.1==4 with
   | true=>exact ⟨(fun s' h=>by cases h),(fun s' h=>by cases h)⟩
   | false=>exact ⟨(fun s' h=>by cases h;exact q),(fun s' h=>by cases h)⟩
theorem Cet {h:TCT cPt→Int} {S:Int} {b:TCT No} {c:TCT Bbv} {ps:Dss} {os:List Bool} {w fl t st:Int} {j:Nat}:∀ (m k:Nat) (s s':MK),MSk h S s.1 s.2→Bsr (Bap (bpE b c ps os w fl t st j) k m s)=.inl s'→MSk h S s'.1 s'.2
 | 0,k,s,s',q,e=>by cases e;exact q
 | m+1,k,s,s',q,e=>by
  unfold Bap at e
  have a:=Cyd (b:=b) (c:=c) (ps:=ps) (os:=os) (w:=w) (fl:=fl) (t:=t) (st:=st) (j:=j) (k:=k) q
  cases hf:bpE b c ps os w fl t st j k s with
  | inl t1=>rw [hf] at e;exact Cet m (k+1) t1 s' (a.1 t1 hf) e
  | inr y =>
   rw [hf] at e
   cases y with
   | inl t1 =>
    have e':=a.2 t1 hf
    subst e'
    cases e
    exact q
   | inr x=>cases e
theorem Cye {h:TCT cPt→Int} {S:Int} {bl:List (TCT No)} {c:TCT Bbv} {ps:Dss} {n:Nat} {w fl t st:Int} {s:S2} {s':MK} (e:buF bl c ps t st w fl n s=.inl s') (q:MSk h S s.1 s.2.2):MSk h S s'.1 s'.2:=by
 unfold buF at e
 exact Bay (n:=n) (Inv:=fun _ (x:MK)=>MSk h S x.1 x.2) (fun j x x' _ hx h3=>Cet ps.length 0 x x' hx h3) n 0 (s.1,s.2.2) s' (by omega) q e
theorem Cyf {h:TCT cPt→Int} (p:PartH h) {k:CT} {s s':S2} {ms:Bal} (hn8:k.bl.length≤8) (hp:k.ps.length≤1000) (hm:s.1.length=k.bl.length) (ho:s.2.1.length=k.bl.length) (e1:Bap (slE k.l s.2.1 k.w k.fl) 0 k.bl.length s.1=.inl ms) (e:tkF k s=.inl s'):MSk h (smP h ms) s'.1 s'.2.2∧s'.2.2.length≤s.2.2.length+129152:=by
 unfold tkF at e
 cases e0:k.t==4000 with
 | true=>rw [e0] at e;cases e
 | false =>
  rw [e0,cond_false,e1] at e
  have h2:Bap (tkE k) 0 16 (ms,s.2.1,s.2.2)=.inl s':=e
  have hl:ms.length=k.bl.length:=Bay (n:=k.bl.length) (Inv:=fun _ (x:Bal)=>x.length=k.bl.length) (fun i s s' _ hl h=>(Cef h).trans hl) k.bl.length 0 _ _ (by omega) hm e1
  have key:Inv2 k.bl.length (s.2.2.length+16*8072) 0 s'∧MSk h (smP h ms) s'.1 s'.2.2:=Bay (n:=16) (Inv:=fun i (x:S2)=>Inv2 k.bl.length (s.2.2.length+i*8072) 0 x∧MSk h (smP h ms) x.1 x.2.2) (fun i x x' hi hx h3=>by
   refine ⟨C1h (m:=16) hn8 hp i x x' hi hx.1 h3,?_⟩
   have q:=hx.2
   unfold tkE at h3
   cases h1:mvF k.bl k.l k.t ((i+1:Nat):Int) k.bl.length x with
   | inr e=>rw [h1] at h3;cases h3
   | inl s1 =>
    rw [h1] at h3
    simp only at h3
    have a:=Cyb h1 q
    have al:=(C1g hx.1 h1).m
    cases h2:seF k.bl k.c k.t ((i+1:Nat):Int) k.w k.fl k.bl.length s1 with
    | inr e=>rw [h2] at h3;cases h3
    | inl s2 =>
     rw [h2] at h3
     simp only at h3
     have b:=Cyc p al h2 a
     cases h4:buF k.bl k.c k.ps k.t ((i+1:Nat):Int) k.w k.fl k.bl.length (s2.1,s1.2.1,s2.2) with
     | inr e=>rw [h4] at h3;cases h3
     | inl s3 =>
      rw [h4] at h3
      cases h3
      exact Cye (s:=(s2.1,s1.2.1,s2.2)) h4 b) 16 0 (ms,s.2.1,s.2.2) s' (by omega) ⟨⟨hl,ho,by show s.2.2.length≤s.2.2.length+0*8072+0;omega⟩,.inl rfl⟩ h2
  have hk:=key.1.k
  exact ⟨key.2,by omega⟩
end St
end V
end Go.Proofs.YtcfanlgpkefogaaGreat
