import Derived.Test.YtcfanlgpkefogaaGreatFo
namespace Go.Proofs.YtcfanlgpkefogaaGreat
open Go.RowKit
namespace V
namespace St
theorem Bnw {S B:Type} {f:Nat→S→S⊕B} {Inv:Nat→S→Prop} {n:Nat} (h2:∀ i s s',i<n→Inv i s→f i s=.inl s'→Inv (i+1) s'):∀ (k i:Nat) (s:S) (e:B),i+k=n→Inv i s→Bap f i k s=.inr e→∃ j t,j<n∧Inv j t∧f j t=.inr e
 | 0,_,_,_,_,_,h=>by cases h
 | k+1,i,s,e,hk,hi,h=>by
  unfold Bap at h
  cases hf:f i s with
  | inl t=>rw [hf] at h;exact Bnw h2 k (i+1) t e (by omega) (h2 i s t (by omega) hi hf) h
  | inr b =>
   rw [hf] at h
   cases h
   exact ⟨i,s,by omega,hi,hf⟩
theorem Cz1 {bl:List (TCT No)} {os:List Bool} {i n:Nat} {ms:Bal} {e:Int} (hi:i<n) (q:RQ bl n ms os) (h:stE bl os i ms=.inr e):e=4:=by
 unfold stE at h
 cases h1:!Bbu ms os i with
 | true=>rw [h1] at h;cases h
 | false =>
  rw [h1] at h
  cases h3:(Bja (Bch bl i) (Bag ms i)).2.1 != 0 with
  | false=>rw [h3] at h;cases h
  | true =>
   rw [h3] at h
   cases h
   have hk:(bm (Bch bl i) (Bag ms i)).ok=true:=q.ok i hi
   show (Bhe (bm (Bch bl i) (Bag ms i))).2.1=4
   have h4:((Bhe (bm (Bch bl i) (Bag ms i))).2.1 != 0)=true:=h3
   unfold Bhe at h4 ⊢
   rw [hk] at h4 ⊢
   cases h5:fpt (sX (bm (Bch bl i) (Bag ms i))) (sY (bm (Bch bl i) (Bag ms i))) with
   | false=>rfl
   | true=>rw [h5] at h4;cases h4
theorem Cz2 {l:TCT Ban} {j:Nat} {T st e:Int} {s:S2} (h:lvE l T st j s=.inr e):False:=by
 unfold lvE at h
 cases e1:Bam s.2.1 j (Baj .b) with
 | true=>rw [e1] at h;cases h
 | false =>
  rw [e1] at h
  cases e2:onB l (Bag s.1 j).1 with
  | true=>rw [e2] at h;cases h
  | false=>rw [e2] at h;cases h
theorem Cz3 {bl:List (TCT No)} {l:TCT Ban} {n:Nat} {T st e:Int} {s:S2} (q:RQ bl n s.1 s.2.1) (h:mvF bl l T st n s=.inr e):e=4:=by
 unfold mvF at h
 cases e1:Bap (stE bl s.2.1) 0 n s.1 with
 | inr x =>
  rw [e1] at h
  cases h
  obtain ⟨j,t,hj,ht,hf⟩:=Bnw (n:=n) (Inv:=fun _ (x:Bal)=>RQ bl n x s.2.1) (fun i s s' hi hq h=>Cpu hi h hq) n 0 s.1 e (by omega) q e1
  exact Cz1 hj ht hf
 | inl ms =>
  rw [e1] at h
  have h2:Bap (lvE l T st) 0 n (ms,s.2.1,s.2.2)=.inr e:=h
  obtain ⟨j,t,hf⟩:=Be1 _ _ _ _ h2
  exact (Cz2 hf).elim
theorem Cf8 {bl:List (TCT No)} {c:TCT Bbv} {t st w fl e:Int} {n:Nat} {s:S2} (hn8:n≤8) (q:RQ bl n s.1 s.2.1) (hc:Be3 c.1 c.2.1=true) (h:seF bl c t st w fl n s=.inr e):e=4:=by
 have hG:InvH s.1 s.2.1 n n (seG bl w fl n s):=Bv1
 have hV:InvV n (seG bl w fl n s):=Dbv q
 have hb:=hV.b
 have hm:=hV.m
 have hk:=hG.g.k
 have ck:Bjd (seG bl w fl n s).2.1 (seG bl w fl n s).2.2=0:=by
  unfold Bjd
  rw [decide_eq_false (show ¬ ((seG bl w fl n s).2.1.length:Int)>8 by omega),show (((seG bl w fl n s).2.1.length:Int)!=((seG bl w fl n s).2.2.length:Int))=false from bne_eq_false_iff_eq.2 (by omega),Cqe _ _ (by omega) (fun k hk=>hV.v k (by omega))]
  rfl
 unfold seF at h
 cases he:(seS bl c w fl n s).2.2.1 != 0 with
 | false=>rw [he] at h;cases h
 | true =>
  rw [he] at h
  cases h
  have h4:=bne_iff_ne.1 he
  unfold seS Bbn at h4 ⊢
  rw [ck,hc] at h4 ⊢
  cases h5:V.okS (Bfk (seG bl w fl n s).2.1 c.1 c.2.1 (seG bl w fl n s).2.1.length 0 ((seG bl w fl n s).2.2,[])) with
  | false=>rfl
  | true=>rw [h5] at h4;exact absurd rfl h4
theorem Cz4 {b:TCT No} {c:TCT Bbv} {ps:Dss} {os:List Bool} {w fl t st e:Int} {j k:Nat} {s:MK} (h:bpE b c ps os w fl t st j k s=.inr (.inr e)):e=4:=by
 unfold bpE at h
 cases e1:!Bbu s.1 os j||Bdb w fl j with
 | true=>rw [e1] at h;cases h
 | false =>
  rw [e1] at h
  simp only [cond_false] at h
  cases e2:(bmV b (Bag s.1 j) (Bd3 ps k) c).2.1==0 with
  | true=>rw [e2] at h;cases h
  | false =>
   rw [e2] at h
   simp only [cond_false] at h
   cases e3:(bmV b (Bag s.1 j) (Bd3 ps k) c).2.1==4 with
   | true=>rw [e3] at h;cases h;exact beq_iff_eq.1 e3
   | false=>rw [e3] at h;cases h
theorem Cz5 {bl:List (TCT No)} {c:TCT Bbv} {ps:Dss} {n:Nat} {w fl t st e:Int} {s:S2} (h:buF bl c ps t st w fl n s=.inr e):e=4:=by
 unfold buF at h
 obtain ⟨j,x,hf⟩:=Be1 _ _ _ _ h
 have h1:Bsr (Bap (bpE (Bch bl j) c ps s.2.1 w fl t st j) 0 ps.length x)=.inr e:=hf
 cases h2:Bap (bpE (Bch bl j) c ps s.2.1 w fl t st j) 0 ps.length x with
 | inl y=>rw [h2] at h1;cases h1
 | inr y =>
  rw [h2] at h1
  cases y with
  | inl z=>cases h1
  | inr z =>
   cases h1
   obtain ⟨i,v,hv⟩:=Be1 _ _ _ _ h2
   exact Cz4 hv
theorem Cz6 {k:CT} {i:Nat} {s:S2} {e:Int} (hn8:k.bl.length≤8) (hc:Be3 k.c.1 k.c.2.1=true) (q:RQ k.bl k.bl.length s.1 s.2.1) (h:tkE k i s=.inr e):e=4:=by
 unfold tkE at h
 cases h1:mvF k.bl k.l k.t ((i+1:Nat):Int) k.bl.length s with
 | inr x=>rw [h1] at h;cases h;exact Cz3 q h1
 | inl s1 =>
  rw [h1] at h
  simp only at h
  have a:=Cpv h1 q
  cases h2:seF k.bl k.c k.t ((i+1:Nat):Int) k.w k.fl k.bl.length s1 with
  | inr x=>rw [h2] at h;cases h;exact Cf8 hn8 a.1 hc h2
  | inl s2 =>
   rw [h2] at h
   simp only at h
   cases h3:buF k.bl k.c k.ps k.t ((i+1:Nat):Int) k.w k.fl k.bl.length (s2.1,s1.2.1,s2.2) with
   | inr x=>rw [h3] at h;cases h;exact Cz5 h3
   | inl s3=>rw [h3] at h;cases h
theorem C5q {g:TCT cGr} {s:TCT cSt} {e:Int} (h:StaOk g s) (ht:s.2.2.2.2.1≠4000) (hf:tkF (ctS g s) (msT s,osT s,[])=.inr e):e=4:=by
 have q:=Bqv h
 unfold tkF at hf
 cases h0:(ctS g s).t==4000 with
 | true=>exact absurd (beq_iff_eq.1 h0) ht
 | false =>
  rw [h0] at hf
  simp only [cond_false] at hf
  cases h1:Bap (slE (ctS g s).l (osT s) (ctS g s).w (ctS g s).fl) 0 (ctS g s).bl.length (msT s) with
  | inr x =>
   rw [h1] at hf
   cases hf
   have e2:Bap (slE g.1 (osT s) s.2.2.1 s.2.2.2.1) 0 (V2 g).length (msT s)=.inr e:=h1
   rw [Dbg (D5v h)] at e2
   obtain ⟨j,t,hj⟩:=Be1 _ _ _ _ e2
   exact Cx6 hj
  | inl ms =>
   rw [h1] at hf
   have q1:RQ (V2 g) (V2 g).length ms (osT s):=(Bay (n:=(V2 g).length) (Inv:=fun _ (x:Bal)=>RQ (V2 g) (V2 g).length x (osT s)∧OL g.1 (V2 g).length x (osT s)) (fun i x x' hi hq h=>Cps hi h hq.1 hq.2) (V2 g).length 0 _ _ (by omega) q h1).1
   have h2:Bap (tkE (ctS g s)) 0 16 (ms,osT s,[])=.inr e:=hf
   obtain ⟨j,t,_,ht,hj⟩:=Bnw (n:=16) (Inv:=fun _ (x:S2)=>RQ (V2 g) (V2 g).length x.1 x.2.1) (fun i x x' _ hx h3=>(Cq1 h3 hx).1) 16 0 (ms,osT s,[]) e (by omega) q1 h2
   exact Cz6 h.n8 (Cex h.gr) ht hj
theorem Cr3 {g:TCT cGr} {s:TCT cSt} {w:TCT cBw} (k:SkOk g s w) (hb:bwB ((V2 g).length:Int) w=false) (h:(skV g s w).2.2.1≠0):(skV g s w).2.2.1=4:=by
 rw [D6o k hb] at h ⊢
 obtain ⟨k1,_,_⟩:=k.set
 unfold skG at h ⊢
 cases h4:w.2.2.2.1==4 with
 | true=>rw [h4] at h;exact absurd rfl h
 | false =>
  rw [h4] at h
  simp only [cond_false] at h ⊢
  cases hf:seF (V2 g) g.2.2.1 0 0 w.1 0 (V2 g).length (Bg9 (msT s) w.1 (twP w),osT s,[]) with
  | inr x=>exact Cf8 k.sk.n8 k1.q (Cex k.sk.gr) hf
  | inl r =>
   rw [hf] at h
   obtain ⟨ms,ks⟩:=r
   unfold skF at h ⊢
   simp only at h ⊢
   cases hk:decide ((ks.length:Int)>0) with
   | false=>rw [hk] at h;exact absurd rfl h
   | true =>
    rw [hk] at h
    cases hg:C1j (skM ms w) w.1 with
    | true=>rfl
    | false=>rw [hg] at h;exact absurd rfl h
end St
end V
end Go.Proofs.YtcfanlgpkefogaaGreat
namespace Go.Proofs.YtcfanlgpkefogaaGreat
open Go.RowKit
namespace V
namespace St
def C5r (l:TCT Ban):Prop:=∀ p:TCT cPt,(Bga l p).1=0∧(Bga l p).2.1=0∧(Bga l p).2.2.1=0
theorem Ci2 {x y:Int} (h:Bb3 x y=true):Bhf x y 0=((x,y,()),0,()):=by
 unfold Bhf
 rw [h,show Bb8 0 0 33554432=false from by decide]
 have b:=Be2 h
 have hx:0≤x*x:=by rcases Int.le_total 0 x with a | a;exact Int.mul_nonneg a a;exact Int.mul_nonneg_of_nonpos_of_nonpos a a
 have hy:0≤y*y:=by rcases Int.le_total 0 y with a | a;exact Int.mul_nonneg a a;exact Int.mul_nonneg_of_nonpos_of_nonpos a a
 obtain ⟨r1,r2,r3⟩:=Bg0 (64*(x*x+y*y)) (by omega)
 have e:slN x y=rt (64*(x*x+y*y)):=rfl
 rw [← e] at r1 r2 r3
 cases hd:decide (slN x y≤8*0) with
 | true =>
  have h0:=of_decide_eq_true hd
  have z:slN x y=0:=by omega
  rw [z] at r3
  have x0:x*x=0:=by omega
  have y0:y*y=0:=by omega
  rcases Int.mul_eq_zero.1 x0 with a | a <;> rcases Int.mul_eq_zero.1 y0 with c | c <;> rw [a,c] <;> rfl
 | false =>
  have h0:=of_decide_eq_false hd
  have z:slN x y≠0:=by omega
  show (((x*(slN x y-8*0)).tdiv (slN x y),(y*(slN x y-8*0)).tdiv (slN x y),()),(0:Int),())=_
  rw [Int.mul_zero,Int.sub_zero,Int.mul_tdiv_cancel _ z,Int.mul_tdiv_cancel _ z]
theorem Ci3 {l:TCT Ban} {m:TCT Bat} (hl:C5r l) (hm:smB m=true):(Bi9 l m).2.1=0∧(C4p l m).2.1=m.2.1:=by
 obtain ⟨a,b,c⟩:=hl m.1
 have d:=Be2 hm
 have e:Bi9 l m=((m.2.1.1,m.2.1.2.1,()),0,()):=by
  unfold Bi9
  rw [a,b,c,Int.add_zero,Int.add_zero,Bb4 (Int.le_trans (by decide) d.1.1) (Int.le_trans d.1.2 (by decide)),Bb4 (Int.le_trans (by decide) d.2.1) (Int.le_trans d.2.2 (by decide))]
  exact Ci2 hm
 refine ⟨by rw [e],?_⟩
 unfold C4p
 rw [e]
theorem Cr4 {h:TCT cPt→Int} {l:TCT Ban} {os:List Bool} {w fl:Int} {i:Nat} {ms ms':Bal} (hl:C5r l) (hs:SM ms) (e:slE l os w fl i ms=.inl ms'):smP h ms'=smP h ms∧SM ms':=by
 unfold slE at e
 cases h1:!Bbu ms os i||Bdb w fl i with
 | true=>rw [h1] at e;cases e;exact ⟨rfl,hs⟩
 | false =>
  rw [h1] at e
  cases h2:Be9 l (Bag ms i).1 != 0 with
  | true=>rw [h2] at e;cases e
  | false =>
   rw [h2] at e
   cases h3:(Bi9 l (Bag ms i)).2.1 != 0 with
   | true=>rw [h3] at e;cases e
   | false =>
    rw [h3] at e
    cases e
    have f:=Ci3 hl (hs i)
    refine ⟨Bp9 f.2,SM.set hs ?_⟩
    unfold smB
    rw [f.2];exact hs i
theorem RQ.sm {bl:List (TCT No)} {n:Nat} {ms:Bal} {os:List Bool} (q:RQ bl n ms os):SM ms:=fun j=>by
 by_cases hj:j<n
 ·have:=q.ok j hj
  unfold Bk7 Bo1 at this
  simp only [Bool.and_eq_true] at this
  exact this.2.2.1
 ·have hm:=q.m
  unfold Bag
  rw [Bda,List.getD_eq_getElem?_getD,List.getElem?_eq_none (by omega)]
  rfl
theorem Cah {g:TCT cGr} {s:TCT cSt} (h:StaOk g s):SM (msT s)∧(msT s).length≤8:=by
 have hm:=h.m
 have h8:=h.n8
 exact ⟨(Bqv h).1.sm,by omega⟩
theorem Cz7 {k:CT} {s r:S2} (h:tkF k s=.inl r):∃ ms:Bal,Bap (slE k.l s.2.1 k.w k.fl) 0 k.bl.length s.1=.inl ms:=by
 unfold tkF at h
 cases e0:k.t==4000 with
 | true=>rw [e0] at h;cases h
 | false =>
  rw [e0,cond_false] at h
  cases e1:Bap (slE k.l s.2.1 k.w k.fl) 0 k.bl.length s.1 with
  | inr e=>rw [e1] at h;cases h
  | inl ms=>exact ⟨ms,rfl⟩
theorem Ci4 {h:TCT cPt→Int} (p:PartH h) {g:TCT cGr} {s:TCT cSt} {r:S2} (hl:C5r g.1) (k:StaOk g s) (hf:tkF (ctS g s) (msT s,osT s,[])=.inl r):MSk h (smP h (msT s)) r.1 r.2.2∧r.2.2.length≤129152:=by
 have hp:=Bux (l:=g.1)
 obtain ⟨ms,e1⟩:=Cz7 hf
 have a:=Cyf p (k:=ctS g s) (s:=(msT s,osT s,[])) k.n8 (by show (postsV g.1).length≤1000;omega) k.m k.o e1 hf
 have b:smP h ms=smP h (msT s)∧SM ms:=Bay (n:=(V2 g).length) (Inv:=fun _ (x:Bal)=>smP h x=smP h (msT s)∧SM x) (fun i x x' _ hx h3=>by
  have c:=Cr4 (h:=h) hl hx.2 h3
  exact ⟨c.1.trans hx.1,c.2⟩) (V2 g).length 0 _ _ (by omega) ⟨rfl,(Cah k).1⟩ e1
 rw [b.1] at a
 simpa using a
def KR (n:Nat) (ks:Kns):Prop:=∀ i,i<ks.length→(Bjn ks i).2.2.1=0→(0≤(Bjn ks i).2.2.2.1∧(Bjn ks i).2.2.2.1<(n:Int))∧(0≤(Bjn ks i).2.2.2.2.1∧(Bjn ks i).2.2.2.2.1<(n:Int))
theorem Cz8 {n:Nat} {o:List Bool} {T:Int}:KV n o T T 0 [] o :=
 ⟨rfl,fun _ h=>absurd h (Nat.not_lt_zero _),fun _ h=>absurd h (Nat.not_lt_zero _),fun _ h=>absurd h (Nat.not_lt_zero _)⟩
theorem Cz9 {g:TCT cGr} {s:TCT cSt} {r:S2} (k:StaOk g s) (hf:tkF (ctS g s) (msT s,osT s,[])=.inl r):KR (V2 g).length r.2.2:=by
 have kv:KV (V2 g).length (osT s) s.2.2.2.2.1 (s.2.2.2.2.1+1) 0 r.2.2 r.2.1:=D6l (k:=ctS g s) (s:=(msT s,osT s,[])) k.n8 (Int.le_refl _) hf Cz8
 intro i hi h0
 have a:=kv.g i hi
 obtain ⟨b,c,_⟩:=a.ot h0
 exact ⟨a.b,Int.le_trans a.b.1 (Int.le_of_lt b),c⟩
theorem Dc3 {bl:List (TCT No)} {c:TCT Bbv} {T st w fl:Int} {n:Nat} {s:S2} {r:Bal×Kns} (hn8:n≤8) (h:seF bl c T st w fl n s=.inl r) (hk:KR n s.2.2):KR n r.2:=by
 unfold seF at h
 cases he:(seS bl c w fl n s).2.2.1 != 0 with
 | true=>rw [he] at h;cases h
 | false =>
  rw [he] at h
  cases h
  have e0:=bne_eq_false_iff_eq.1 he
  have hG:InvH s.1 s.2.1 n n (seG bl w fl n s):=Bv1
  have hS:=Bqr hn8 e0
  refine Bay (n:=(seS bl c w fl n s).2.1.length) (Inv:=fun _ (x:Kns)=>KR n x) (fun j x x' hj hx h3=>?_) (seS bl c w fl n s).2.1.length 0 s.2.2 _ (by omega) hk (Bgh (Bap (kpE (seG bl w fl n s).1 (seS bl c w fl n s).2.1 T st) 0 (seS bl c w fl n s).2.1.length s.2.2))
  cases h3
  have pr:Bqq (seG bl w fl n s).1.length (Bim (seS bl c w fl n s).2.1 j):=hS.2.2 _ (Bcl hj _)
  have l1:Int.toNat (Bim (seS bl c w fl n s).2.1 j).1<(seG bl w fl n s).1.length:=Bnd pr.1 (Int.lt_trans pr.2.1 pr.2.2)
  have l2:Int.toNat (Bim (seS bl c w fl n s).2.1 j).2.1<(seG bl w fl n s).1.length:=Bnd (Int.le_of_lt (Int.lt_of_le_of_lt pr.1 pr.2.1)) pr.2.2
  intro i hi h0
  rw [List.length_append,List.length_singleton] at hi
  by_cases e:i=x.length
  ·subst e
   rw [Bp8]
   exact ⟨hG.g.r _ (Bcl l1 _),hG.g.r _ (Bcl l2 _)⟩
  ·rw [Bp7 (by omega)] at h0 ⊢
   exact hx i (by omega) h0
theorem Cr5 {g:TCT cGr} {s:TCT cSt} {w:TCT cBw} (h:(skV g s w).2.2.1=0):KR (V2 g).length (skV g s w).2.1∧(skV g s w).1.2.2.2.2.1=0∧((skV g s w).2.1:Kns).length≤10000∧∀ i:Nat,i≠Int.toNat w.1→tcB i (skV g s w).2.1=false→Bag (msT (skV g s w).1) i=Bag (msT s) i:=by
 obtain ⟨k,e⟩:=Cev h
 obtain ⟨k1,k2,k3⟩:=k.set
 have n8:=k.sk.n8
 have hm1:=k1.q.m
 have hi:Int.toNat w.1<(V2 g).length:=Bnd k.b.b.1 k.b.b.2
 have hset:∀ i:Nat,i≠Int.toNat w.1→Bag (Bg9 (msT s) w.1 (twP w)) i=Bag (msT s) i:=fun i hne=>by
  unfold Bg9
  have hm:=k.sk.m
  exact Bed (by omega) hne
 have nil:KR (V2 g).length []:=fun i hi=>absurd hi (Nat.not_lt_zero i)
 rw [e] at h ⊢
 unfold skG at h ⊢
 cases h4:w.2.2.2.1==4 with
 | true =>
  simp only [cond_true]
  exact ⟨nil,rfl,Nat.zero_le _,fun i hne _=>hset i hne⟩
 | false =>
  rw [h4] at h
  simp only [cond_false] at h ⊢
  cases hf:seF (V2 g) g.2.2.1 0 0 w.1 0 (V2 g).length (Bg9 (msT s) w.1 (twP w),osT s,[]) with
  | inr x=>rw [hf] at h;exact absurd h (Buv hf)
  | inl r =>
   rw [hf] at h
   have rel:∀ i,REL i (Bg9 (msT s) w.1 (twP w),osT s,[]) (r.1,osT s,r.2):=fun i=>Ceq n8 hf
   have kr:=Dc3 n8 hf nil
   have rest:∀ i:Nat,i≠Int.toNat w.1→Bf0 (Bag (Bg9 (msT s) w.1 (twP w)) i)=true:=fun i hne=>by
    rw [hset i hne];exact Bt6 k.r i
   have stay:∀ i:Nat,i≠Int.toNat w.1→tcB i r.2=false→Bag r.1 i=Bag (msT s) i:=fun i hne hk=>((rel i).r2 (rest i hne) hk).1.trans (hset i hne)
   have len:r.2.length≤10000:=by
    unfold seF at hf
    cases he:(seS (V2 g) g.2.2.1 w.1 0 (V2 g).length (Bg9 (msT s) w.1 (twP w),osT s,[])).2.2.1 != 0 with
    | true=>rw [he] at hf;cases hf
    | false =>
     rw [he] at hf
     cases hf
     have hS:=Bqr n8 (bne_eq_false_iff_eq.1 he)
     have hl:=hS.2.1
     have hk:=Cdv (W:=(seG (V2 g) w.1 0 (V2 g).length (Bg9 (msT s) w.1 (twP w),osT s,[])).1) (P:=(seS (V2 g) g.2.2.1 w.1 0 (V2 g).length (Bg9 (msT s) w.1 (twP w),osT s,[])).2.1) (t:=0) (st:=0) (ks:=[])
     show (kpV _ _ 0 0 []).length≤10000
     rw [hk]
     simp only [List.length_nil]
     omega
   obtain ⟨ms,ks⟩:=r
   unfold skF at h ⊢
   simp only at h ⊢
   cases hk:decide ((ks.length:Int)>0) with
   | false=>exact ⟨kr,rfl,len,stay⟩
   | true =>
    rw [hk] at h
    cases hg:C1j (skM ms w) w.1 with
    | true=>rw [hg] at h;cases h
    | false =>
     refine ⟨kr,rfl,len,fun i hne hk=>?_⟩
     have ml:(ms:Bal).length=(V2 g).length:=(C1k hf).trans hm1
     show Bag (skM ms w) i=_
     unfold skM mY mX
     rw [C5j,Ber (show Int.toNat w.1<(ms:Bal).length by omega) rfl,Bed (by omega) hne]
     exact stay i hne hk
end St
end V
end Go.Proofs.YtcfanlgpkefogaaGreat
namespace Go.Proofs.YtcfanlgpkefogaaGreat
open Go.RowKit
namespace V
namespace St
structure InvP (l:TCT Ban) (p:List (TCT cPt)) (i:Nat) (ms:Bal):Prop where
 ln:ms.length=i
 g:∀ j:Nat,j<i→Bag ms j=C12 (Bam p j (Baj cPt))∧onB l (Cnv (Bam p j (Baj cPt)))=true
theorem Cf9 {l:TCT Ban} {p:List (TCT cPt)} {ms:Bal} (h:Bap (f_li l p) 0 p.length []=.inl ms):InvP l p p.length ms :=
 Bay (n:=p.length) (Inv:=fun i (x:Bal)=>InvP l p i x) (fun i x x' hi hx h2=>by
  unfold f_li at h2
  cases ho:Cw6 l p i with
  | false=>rw [ho] at h2;cases h2
  | true =>
   rw [ho] at h2
   cases h2
   have hl:=hx.ln
   refine ⟨by rw [List.length_append,List.length_singleton,hl],fun j hj=>?_⟩
   unfold Bag
   rw [Bej (by omega)]
   by_cases e:j=x.length
   ·rw [if_pos e,e,hl];exact ⟨rfl,ho⟩
   ·rw [if_neg e];exact hx.g j (by omega)) p.length 0 [] ms (by omega) ⟨rfl,fun _ h=>absurd h (Nat.not_lt_zero _)⟩ h
theorem Bz2 {g:TCT cGr} (h:groE g=0):Bc3 g.1=0∧(1≤(V2 g).length∧(V2 g).length≤8)∧(V2 g).all Bge=true:=by
 unfold groE at h
 cases h1:Bc3 g.1 != 0 with
 | true=>rw [h1,cond_true] at h;exact absurd h (bne_iff_ne.1 h1)
 | false =>
  rw [h1,cond_false] at h
  cases h2:decide (((V2 g).length:Int)<1)||decide (((V2 g).length:Int)>8) with
  | true=>rw [h2] at h;cases h
  | false =>
   rw [h2,cond_false] at h
   rw [Bool.or_eq_false_iff] at h2
   have a:=of_decide_eq_false h2.1
   have b:=of_decide_eq_false h2.2
   cases h3:okG g with
   | false=>rw [h3] at h;cases h
   | true =>
    unfold okG at h3
    rw [Bool.and_eq_true] at h3
    exact ⟨bne_eq_false_iff_eq.1 h1,⟨by omega,by omega⟩,h3.1⟩
theorem Dc4 {l:TCT Ban} {p:TCT cPt} (hl:Bc3 l=0) (h:onB l p=true):fpt p.1 p.2.1=true:=by
 have lo:=C97 hl
 unfold onB inR at h
 simp only [Bool.and_eq_true,decide_eq_true_eq] at h
 exact Buy h.1.1 h.2.1 h.1.2 h.2.2 lo.w.2 lo.lg.2
theorem Cza {b:TCT No} {p:TCT cPt} (hb:Bge b=true) (hp:fpt p.1 p.2.1=true):Bk7 b (C12 p)=true:=by
 have hm:400≤b.1:=by
  unfold Bge Bhd at hb
  rw [Bool.and_eq_true,Bool.not_eq_true',Bool.not_eq_true'] at hb
  exact (Bcj hb.1).1
 unfold Bk7 Bo1
 show (Bhd b.1 b.2.1&&(fpt p.1 p.2.1&&(Bb3 0 0&&(!Bb8 0 (-(32*b.1)) (32*b.1-1)&&!Bb8 0 (-(32*b.1)) (32*b.1-1)))))=true
 have ho:Bb8 0 (-(32*b.1)) (32*b.1-1)=false:=Ca7 (z_in hm)
 rw [show Bhd b.1 b.2.1=true from hb,hp,ho]
 rfl
where z_in {m:Int} (h:400≤m) : -(32*m)≤0∧(0:Int)≤32*m-1:=by omega
theorem D70 {g:TCT cGr} {p:List (TCT cPt)} (h:(Beq g p).2.1=0):StaOk g (Beq g p).1∧Bcc (Beq g p).1=true∧(∀ j:Nat,Bbs (osT (Beq g p).1) j=false)∧p.length=(V2 g).length:=by
 unfold Beq at h ⊢
 cases h1:groE g != 0 with
 | true=>rw [h1] at h;exact absurd h (bne_iff_ne.1 h1)
 | false =>
  have hg:=bne_eq_false_iff_eq.1 h1
  obtain ⟨hl,⟨n1,n8⟩,hb⟩:=Bz2 hg
  rw [h1] at h
  simp only [cond_false] at h ⊢
  cases h2:C14 p.length (V2 g).length with
  | true=>rw [h2] at h;cases h
  | false =>
   rw [h2] at h
   simp only [cond_false] at h ⊢
   have hn:p.length=(V2 g).length:=by
    unfold C14 at h2
    have:=bne_eq_false_iff_eq.1 h2
    omega
   cases h3:Bap (f_li g.1 p) 0 p.length [] with
   | inr e=>rw [h3] at h;cases h
   | inl ms =>
    have iv:=Cf9 h3
    have il:=iv.ln
    have og:∀ j:Nat,Bbs (List.replicate p.length false) j=false:=fun j=>by
     unfold Bbs
     rw [Bda,List.getD_eq_getElem?_getD,List.getElem?_replicate]
     by_cases e:j<p.length
     ·rw [if_pos e];rfl
     ·rw [if_neg e];rfl
    have q:RQ (V2 g) (V2 g).length ms (List.replicate p.length false):=⟨il.trans hn,by rw [List.length_replicate,hn],fun j hj=>by
     obtain ⟨a,b⟩:=iv.g j (by omega)
     rw [a]
     refine Cza ?_ (Dc4 (p:=Cnv (Bam p j (Baj cPt))) hl b)
     exact List.all_eq_true.1 hb _ (Bcl hj _),fun j _ h=>by rw [og j] at h;cases h⟩
    have ol:OL g.1 (V2 g).length ms (List.replicate p.length false):=fun j hj _=>by
     obtain ⟨a,b⟩:=iv.g j (by omega)
     rw [a]
     exact b
    refine ⟨Bv2 hg n1 n8 q ol ?_,?_,og,hn⟩
    ·show (decide ((0:Int)<0)||(decide ((0:Int)≥((V2 g).length:Int))||(decide ((0:Int)<0)||(decide ((0:Int)>8)||(decide ((0:Int)<0)||decide ((0:Int)>4000))))))=false
     rw [decide_eq_false (show ¬ (0:Int)≥((V2 g).length:Int) by omega)]
     rfl
    ·show (ms:Bal).all Bf0=true
     rw [List.all_eq_true]
     intro m hm
     obtain ⟨j,hj,e⟩:=List.getElem_of_mem hm
     have:=(iv.g j (by omega)).1
     unfold Bag at this
     rw [Bda,List.getD_eq_getElem?_getD,List.getElem?_eq_getElem hj] at this
     rw [← e]
     rw [show ms[j]=C12 (Bam p j (Baj cPt)) from this]
     rfl
end St
end V
end Go.Proofs.YtcfanlgpkefogaaGreat
namespace Go.Proofs.YtcfanlgpkefogaaGreat
open Go.RowKit
namespace V
namespace St
def Bsu (o:List Bool) (x:TCT cKn):List Bool:=Bba (Bba o (Int.toNat x.2.2.2.1) true) (Int.toNat x.2.2.2.2.1) true
def Blj (o:List Bool) (ks:Kns):List Bool:=ks.foldl Bsu o
theorem Bvb {o:List Bool} {x:TCT cKn}:(Bsu o x).length=o.length:=by unfold Bsu;rw [Bbd,Bbd]
theorem Bvc:∀ (ks:Kns) (o:List Bool),(Blj o ks).length=o.length
 | [],_=>rfl
 | x::ks,o=>(Bvc ks (Bsu o x)).trans Bvb
theorem Bjo {l:List Bool} {i j:Nat}:i<l.length→Bbs (Bba l i true) j=(Bbs l j||decide (j=i)):=fun hi=>by
 by_cases e:j=i
 ·rw [Ceh hi e,decide_eq_true e,Bool.or_true]
 ·rw [C1l hi e,decide_eq_false e,Bool.or_false]
theorem D2r {a:Int} {k:Nat} (h:0≤a):(a==(k:Int))=decide (k=Int.toNat a):=by
 by_cases e:k=Int.toNat a
 ·rw [decide_eq_true e];exact beq_iff_eq.2 (by omega)
 ·rw [decide_eq_false e];exact beq_eq_false_iff_ne.2 (by omega)
structure KN (n:Nat) (x:TCT cKn):Prop where
 z:x.2.2.1=0
 b:0≤x.2.2.2.1∧x.2.2.2.1<(n:Int)
 o:0≤x.2.2.2.2.1∧x.2.2.2.2.1<(n:Int)
theorem Czb {o:List Bool} {x:TCT cKn} {n k:Nat} (hl:o.length=n) (h:KN n x):Bbs (Bsu o x) k=(Bbs o k||tcK k x):=by
 unfold Bsu
 have h1:Int.toNat x.2.2.2.1<o.length:=by rw [hl];exact Bnd h.b.1 h.b.2
 have h2:Int.toNat x.2.2.2.2.1<(Bba o (Int.toNat x.2.2.2.1) true).length:=by rw [Bbd,hl];exact Bnd h.o.1 h.o.2
 rw [Bjo h2,Bjo h1]
 unfold tcK
 rw [D2r h.b.1,h.z,D2r h.o.1,show ((0:Int)==0)=true from rfl,Bool.true_and,Bool.or_assoc]
theorem C1r {n k:Nat}:∀ (ks:Kns) (o:List Bool),o.length=n→(∀ x ∈ ks,KN n x)→Bbs (Blj o ks) k=(Bbs o k||tcB k ks)
 | [],o,_,_=>by
  show Bbs o k=(Bbs o k||false)
  rw [Bool.or_false]
 | x::ks,o,hl,h=>by
  have ih:=C1r (n:=n) (k:=k) ks (Bsu o x) (Bvb.trans hl) (fun y hy=>h y (List.mem_cons_of_mem _ hy))
  show Bbs (Blj (Bsu o x) ks) k=(Bbs o k||(tcK k x||tcB k ks))
  rw [ih,Czb hl (h x (List.mem_cons_self ..)),Bool.or_assoc]
theorem Cr6 {n:Nat} {ks:Kns} (h:KR n ks) (hn:ks.any nbK=false):∀ x ∈ ks,KN n x:=fun x hx=>by
 obtain ⟨i,hi,e⟩:=List.getElem_of_mem hx
 have g:Bjn ks i=x:=by
  unfold Bjn
  rw [Bda,List.getD_eq_getElem?_getD,List.getElem?_eq_getElem hi,← e];rfl
 have z:x.2.2.1=0:=by
  have:=List.any_eq_false.1 hn x hx
  unfold nbK at this
  exact bne_eq_false_iff_eq.1 (by simpa using this)
 have a:=h i hi (by rw [g];exact z)
 rw [g] at a
 exact ⟨z,a.1,a.2⟩
structure CI (g:TCT cGr) (s0 t0:TCT cSt) (i:Nat) (t:TCT cSt) (ks:Kns) (hit:List Bool):Prop where
 a:StaOk g t
 tk:t.2.2.2.2.1=(i:Int)
 kr:KR (V2 g).length ks
 kl:ks.length≤129152
 hl:hit.length=(V2 g).length
 d:ks.any nbK=false→∀ h:TCT cPt→Int,PartH h→smP h (msT t)=smP h (msT t0)
 e:∀ k:Nat,Bbs hit k=false→tcB k ks=false→Bag (msT t) k=Bag (msT s0) k∧Bf0 (Bag (msT s0) k)=true
theorem CI.tick {g:TCT cGr} {s0 t0 t:TCT cSt} {i:Nat} {ks:Kns} {hit:List Bool} {r:S2} (c:CI g s0 t0 i t ks hit) (hl:C5r g.1) (hi:i≤100) (hk:ks.any nbK=false) (hf:tkF (ctS g t) (msT t,osT t,[])=.inl r):CI g s0 t0 (i+1) (nxS t r) r.2.2 (Blj hit ks):=by
 have con:=fun h p=>Ci4 (h:=h) p hl c.a hf
 refine ⟨Bv3 c.a hf,?_,Cz9 c.a hf,(con _ .x).2,(Bvc _ _).trans c.hl,fun hn h p=>?_,fun k hh hk2=>?_⟩
 ·show W64 (t.2.2.2.2.1+1)=_
  rw [c.tk,Bb4 (n:=(i:Int)+1) (by omega) (by omega)];rfl
 ·rcases (con h p).1 with a | a
  ·exact a.trans (c.d hk h p)
  ·rw [hn] at a;cases a
 ·rw [C1r ks hit c.hl (Cr6 c.kr hk),Bool.or_eq_false_iff] at hh
  obtain ⟨e1,e2⟩:=c.e k hh.1 hh.2
  have R:REL k (msT t,osT t,[]) r:=Cy5 (k:=ctS g t) c.a.n8 hf
  have e3:=R.r2 (by show Bf0 (Bag (msT t) k)=true;rw [e1];exact e2) hk2
  exact ⟨e3.1.trans e1,e2⟩
theorem CI.zero {g:TCT cGr} {s:TCT cSt} {w:TCT cBw} {hit:List Bool} (h:(skV g s w).2.2.1=0) (hl:hit.length=(V2 g).length) (hw:Bbs hit (Int.toNat w.1)=true):CI g s (skV g s w).1 0 (skV g s w).1 (skV g s w).2.1 hit:=by
 obtain ⟨k,_⟩:=Cev h
 obtain ⟨a,b,c,d⟩:=Cr5 h
 refine ⟨(Cab h).1,b,a,by omega,hl,fun _ _ _=>rfl,fun i hh hk=>?_⟩
 have hne:i≠Int.toNat w.1:=fun e=>by rw [e,hw] at hh;cases hh
 exact ⟨d i hne hk,Bt6 k.r i⟩
end St
end V
end Go.Proofs.YtcfanlgpkefogaaGreat
