import Derived.Test.YtcfanlgpkefogaaGreatFo
namespace Go.Proofs.YtcfanlgpkefogaaGreat
open Go.RowKit
namespace V
namespace St
theorem Rp {S B:Type} {f:Nat→S→S⊕B} {Inv:Nat→S→Prop} {n:Nat} (h2:∀ i s s',i<n→Inv i s→f i s=.inl s'→Inv (i+1) s'):∀ (k i:Nat) (s:S) (e:B),i+k=n→Inv i s→B6 f i k s=.inr e→∃ j t,j<n∧Inv j t∧f j t=.inr e
 | 0,_,_,_,_,_,h=>by cases h
 | k+1,i,s,e,hk,hi,h=>by
  unfold B6 at h
  cases hf:f i s with
  | inl t=>rw [hf] at h;exact Rp h2 k (i+1) t e (by omega) (h2 i s t (by omega) hi hf) h
  | inr b =>
   rw [hf] at h
   cases h
   exact ⟨i,s,by omega,hi,hf⟩
theorem B3z {bl:List (TCT A3)} {os:List Bool} {i n:Nat} {ms:Ax} {e:Int} (hi:i<n) (q:RQ bl n ms os) (h:stE bl os i ms=.inr e):e=4:=by
 unfold stE at h
 cases h1:!Cf ms os i with
 | true=>rw [h1] at h;cases h
 | false =>
  rw [h1] at h
  cases h3:(N3 (E6 bl i) (A8 ms i)).2.1 != 0 with
  | false=>rw [h3] at h;cases h
  | true =>
   rw [h3] at h
   cases h
   have hk:(bm (E6 bl i) (A8 ms i)).ok=true:=q.ok i hi
   show (Md (bm (E6 bl i) (A8 ms i))).2.1=4
   have h4:((Md (bm (E6 bl i) (A8 ms i))).2.1 != 0)=true:=h3
   unfold Md at h4 ⊢
   rw [hk] at h4 ⊢
   cases h5:fpt (sX (bm (E6 bl i) (A8 ms i))) (sY (bm (E6 bl i) (A8 ms i))) with
   | false=>rfl
   | true=>rw [h5] at h4;cases h4
theorem B40 {l:TCT A5} {j:Nat} {T st e:Int} {s:S2} (h:lvE l T st j s=.inr e):False:=by
 unfold lvE at h
 cases e1:Bc s.2.1 j (B7 .b) with
 | true=>rw [e1] at h;cases h
 | false =>
  rw [e1] at h
  cases e2:onB l (A8 s.1 j).1 with
  | true=>rw [e2] at h;cases h
  | false=>rw [e2] at h;cases h
theorem B41 {bl:List (TCT A3)} {l:TCT A5} {n:Nat} {T st e:Int} {s:S2} (q:RQ bl n s.1 s.2.1) (h:mvF bl l T st n s=.inr e):e=4:=by
 unfold mvF at h
 cases e1:B6 (stE bl s.2.1) 0 n s.1 with
 | inr x =>
  rw [e1] at h
  cases h
  obtain ⟨j,t,hj,ht,hf⟩:=Rp (n:=n) (Inv:=fun _ (x:Ax)=>RQ bl n x s.2.1) (fun i s s' hi hq h=>Av5 hi h hq) n 0 s.1 e (by omega) q e1
  exact B3z hj ht hf
 | inl ms =>
  rw [e1] at h
  have h2:B6 (lvE l T st) 0 n (ms,s.2.1,s.2.2)=.inr e:=h
  obtain ⟨j,t,hf⟩:=Fq _ _ _ _ h2
  exact (B40 hf).elim
theorem Ak5 {bl:List (TCT A3)} {c:TCT Co} {t st w fl e:Int} {n:Nat} {s:S2} (hn8:n≤8) (q:RQ bl n s.1 s.2.1) (hc:Ic c.1 c.2.1=true) (h:seF bl c t st w fl n s=.inr e):e=4:=by
 have hG:InvH s.1 s.2.1 n n (seG bl w fl n s):=A3y
 have hV:InvV n (seG bl w fl n s):=Bhe q
 have hb:=hV.b
 have hm:=hV.m
 have hk:=hG.g.k
 have ck:N4 (seG bl w fl n s).2.1 (seG bl w fl n s).2.2=0:=by
  unfold N4
  rw [decide_eq_false (show ¬ ((seG bl w fl n s).2.1.length:Int)>8 by omega),show (((seG bl w fl n s).2.1.length:Int)!=((seG bl w fl n s).2.2.length:Int))=false from bne_eq_false_iff_eq.2 (by omega),Avo _ _ (by omega) (fun k hk=>hV.v k (by omega))]
  rfl
 unfold seF at h
 cases he:(seS bl c w fl n s).2.2.1 != 0 with
 | false=>rw [he] at h;cases h
 | true =>
  rw [he] at h
  cases h
  have h4:=bne_iff_ne.1 he
  unfold seS Cn at h4 ⊢
  rw [ck,hc] at h4 ⊢
  cases h5:V.okS (Iu (seG bl w fl n s).2.1 c.1 c.2.1 (seG bl w fl n s).2.1.length 0 ((seG bl w fl n s).2.2,[])) with
  | false=>rfl
  | true=>rw [h5] at h4;exact absurd rfl h4
theorem B42 {b:TCT A3} {c:TCT Co} {ps:Dss} {os:List Bool} {w fl t st e:Int} {j k:Nat} {s:MK} (h:bpE b c ps os w fl t st j k s=.inr (.inr e)):e=4:=by
 unfold bpE at h
 cases e1:!Cf s.1 os j||F9 w fl j with
 | true=>rw [e1] at h;cases h
 | false =>
  rw [e1] at h
  simp only [cond_false] at h
  cases e2:(bmV b (A8 s.1 j) (Fi ps k) c).2.1==0 with
  | true=>rw [e2] at h;cases h
  | false =>
   rw [e2] at h
   simp only [cond_false] at h
   cases e3:(bmV b (A8 s.1 j) (Fi ps k) c).2.1==4 with
   | true=>rw [e3] at h;cases h;exact beq_iff_eq.1 e3
   | false=>rw [e3] at h;cases h
theorem B43 {bl:List (TCT A3)} {c:TCT Co} {ps:Dss} {n:Nat} {w fl t st e:Int} {s:S2} (h:buF bl c ps t st w fl n s=.inr e):e=4:=by
 unfold buF at h
 obtain ⟨j,x,hf⟩:=Fq _ _ _ _ h
 have h1:Xk (B6 (bpE (E6 bl j) c ps s.2.1 w fl t st j) 0 ps.length x)=.inr e:=hf
 cases h2:B6 (bpE (E6 bl j) c ps s.2.1 w fl t st j) 0 ps.length x with
 | inl y=>rw [h2] at h1;cases h1
 | inr y =>
  rw [h2] at h1
  cases y with
  | inl z=>cases h1
  | inr z =>
   cases h1
   obtain ⟨i,v,hv⟩:=Fq _ _ _ _ h2
   exact B42 hv
theorem B44 {k:CT} {i:Nat} {s:S2} {e:Int} (hn8:k.bl.length≤8) (hc:Ic k.c.1 k.c.2.1=true) (q:RQ k.bl k.bl.length s.1 s.2.1) (h:tkE k i s=.inr e):e=4:=by
 unfold tkE at h
 cases h1:mvF k.bl k.l k.t ((i+1:Nat):Int) k.bl.length s with
 | inr x=>rw [h1] at h;cases h;exact B41 q h1
 | inl s1 =>
  rw [h1] at h
  simp only at h
  have a:=Av6 h1 q
  cases h2:seF k.bl k.c k.t ((i+1:Nat):Int) k.w k.fl k.bl.length s1 with
  | inr x=>rw [h2] at h;cases h;exact Ak5 hn8 a.1 hc h2
  | inl s2 =>
   rw [h2] at h
   simp only at h
   cases h3:buF k.bl k.c k.ps k.t ((i+1:Nat):Int) k.w k.fl k.bl.length (s2.1,s1.2.1,s2.2) with
   | inr x=>rw [h3] at h;cases h;exact B43 h3
   | inl s3=>rw [h3] at h;cases h
theorem Aan {g:TCT cGr} {s:TCT cSt} {e:Int} (h:StaOk g s) (ht:s.2.2.2.2.1≠4000) (hf:tkF (ctS g s) (msT s,osT s,[])=.inr e):e=4:=by
 have q:=Ro h
 unfold tkF at hf
 cases h0:(ctS g s).t==4000 with
 | true=>exact absurd (beq_iff_eq.1 h0) ht
 | false =>
  rw [h0] at hf
  simp only [cond_false] at hf
  cases h1:B6 (slE (ctS g s).l (osT s) (ctS g s).w (ctS g s).fl) 0 (ctS g s).bl.length (msT s) with
  | inr x =>
   rw [h1] at hf
   cases hf
   have e2:B6 (slE g.1 (osT s) s.2.2.1 s.2.2.2.1) 0 (A4 g).length (msT s)=.inr e:=h1
   rw [Bgz (Bbe h)] at e2
   obtain ⟨j,t,hj⟩:=Fq _ _ _ _ e2
   exact B2l hj
  | inl ms =>
   rw [h1] at hf
   have q1:RQ (A4 g) (A4 g).length ms (osT s):=(Bf (n:=(A4 g).length) (Inv:=fun _ (x:Ax)=>RQ (A4 g) (A4 g).length x (osT s)∧OL g.1 (A4 g).length x (osT s)) (fun i x x' hi hq h=>Av3 hi h hq.1 hq.2) (A4 g).length 0 _ _ (by omega) q h1).1
   have h2:B6 (tkE (ctS g s)) 0 16 (ms,osT s,[])=.inr e:=hf
   obtain ⟨j,t,_,ht,hj⟩:=Rp (n:=16) (Inv:=fun _ (x:S2)=>RQ (A4 g) (A4 g).length x.1 x.2.1) (fun i x x' _ hx h3=>(Avc h3 hx).1) 16 0 (ms,osT s,[]) e (by omega) q1 h2
   exact B44 h.n8 (Ak0 h.gr) ht hj
theorem Avt {g:TCT cGr} {s:TCT cSt} {w:TCT cBw} (k:SkOk g s w) (hb:bwB ((A4 g).length:Int) w=false) (h:(skV g s w).2.2.1≠0):(skV g s w).2.2.1=4:=by
 rw [Bc7 k hb] at h ⊢
 obtain ⟨k1,_,_⟩:=k.set
 unfold skG at h ⊢
 cases h4:w.2.2.2.1==4 with
 | true=>rw [h4] at h;exact absurd rfl h
 | false =>
  rw [h4] at h
  simp only [cond_false] at h ⊢
  cases hf:seF (A4 g) g.2.2.1 0 0 w.1 0 (A4 g).length (Km (msT s) w.1 (twP w),osT s,[]) with
  | inr x=>exact Ak5 k.sk.n8 k1.q (Ak0 k.sk.gr) hf
  | inl r =>
   rw [hf] at h
   obtain ⟨ms,ks⟩:=r
   unfold skF at h ⊢
   simp only at h ⊢
   cases hk:decide ((ks.length:Int)>0) with
   | false=>rw [hk] at h;exact absurd rfl h
   | true =>
    rw [hk] at h
    cases hg:A6a (skM ms w) w.1 with
    | true=>rfl
    | false=>rw [hg] at h;exact absurd rfl h
end St
end V
end Go.Proofs.YtcfanlgpkefogaaGreat
namespace Go.Proofs.YtcfanlgpkefogaaGreat
open Go.RowKit
namespace V
namespace St
def Aao (l:TCT A5):Prop:=∀ p:TCT cPt,(La l p).1=0∧(La l p).2.1=0∧(La l p).2.2.1=0
theorem An0 {x y:Int} (h:Bo x y=true):O2 x y 0=((x,y,()),0,()):=by
 unfold O2
 rw [h,show Bs 0 0 33554432=false from by decide]
 have b:=Ft h
 have hx:0≤x*x:=by rcases Int.le_total 0 x with a | a;exact Int.mul_nonneg a a;exact Int.mul_nonneg_of_nonpos_of_nonpos a a
 have hy:0≤y*y:=by rcases Int.le_total 0 y with a | a;exact Int.mul_nonneg a a;exact Int.mul_nonneg_of_nonpos_of_nonpos a a
 obtain ⟨r1,r2,r3⟩:=J7 (64*(x*x+y*y)) (by omega)
 have e:slN x y=rt (64*(x*x+y*y)):=rfl
 rw [← e] at r1 r2 r3
 cases hd:decide (slN x y≤8*0) with
 | true =>
  have h0:=of_decide_eq_true hd
  have z:slN x y=0:=by omega
  rw [z] at r3
  have x0:x*x=0:=by omega
  have y0:y*y=0:=by omega
  rcases Int.mul_eq_zero.1 x0 with a | a <;> rcases Int.mul_eq_zero.1 y0 with c | c <;> rw [a,c] <;> rfl
 | false =>
  have h0:=of_decide_eq_false hd
  have z:slN x y≠0:=by omega
  show (((x*(slN x y-8*0)).tdiv (slN x y),(y*(slN x y-8*0)).tdiv (slN x y),()),(0:Int),())=_
  rw [Int.mul_zero,Int.sub_zero,Int.mul_tdiv_cancel _ z,Int.mul_tdiv_cancel _ z]
theorem An1 {l:TCT A5} {m:TCT Bd} (hl:Aao l) (hm:smB m=true):(M9 l m).2.1=0∧(A9o l m).2.1=m.2.1:=by
 obtain ⟨a,b,c⟩:=hl m.1
 have d:=Ft hm
 have e:M9 l m=((m.2.1.1,m.2.1.2.1,()),0,()):=by
  unfold M9
  rw [a,b,c,Int.add_zero,Int.add_zero,Bi (Int.le_trans (by decide) d.1.1) (Int.le_trans d.1.2 (by decide)),Bi (Int.le_trans (by decide) d.2.1) (Int.le_trans d.2.2 (by decide))]
  exact An0 hm
 refine ⟨by rw [e],?_⟩
 unfold A9o
 rw [e]
theorem Avu {h:TCT cPt→Int} {l:TCT A5} {os:List Bool} {w fl:Int} {i:Nat} {ms ms':Ax} (hl:Aao l) (hs:SM ms) (e:slE l os w fl i ms=.inl ms'):smP h ms'=smP h ms∧SM ms':=by
 unfold slE at e
 cases h1:!Cf ms os i||F9 w fl i with
 | true=>rw [h1] at e;cases e;exact ⟨rfl,hs⟩
 | false =>
  rw [h1] at e
  cases h2:G5 l (A8 ms i).1 != 0 with
  | true=>rw [h2] at e;cases e
  | false =>
   rw [h2] at e
   cases h3:(M9 l (A8 ms i)).2.1 != 0 with
   | true=>rw [h3] at e;cases e
   | false =>
    rw [h3] at e
    cases e
    have f:=An1 hl (hs i)
    refine ⟨Tk f.2,SM.set hs ?_⟩
    unfold smB
    rw [f.2];exact hs i
theorem RQ.sm {bl:List (TCT A3)} {n:Nat} {ms:Ax} {os:List Bool} (q:RQ bl n ms os):SM ms:=fun j=>by
 by_cases hj:j<n
 ·have:=q.ok j hj
  unfold N1 Rv at this
  simp only [Bool.and_eq_true] at this
  exact this.2.2.1
 ·have hm:=q.m
  unfold A8
  rw [F7,List.getD_eq_getElem?_getD,List.getElem?_eq_none (by omega)]
  rfl
theorem Af8 {g:TCT cGr} {s:TCT cSt} (h:StaOk g s):SM (msT s)∧(msT s).length≤8:=by
 have hm:=h.m
 have h8:=h.n8
 exact ⟨(Ro h).1.sm,by omega⟩
theorem B45 {k:CT} {s r:S2} (h:tkF k s=.inl r):∃ ms:Ax,B6 (slE k.l s.2.1 k.w k.fl) 0 k.bl.length s.1=.inl ms:=by
 unfold tkF at h
 cases e0:k.t==4000 with
 | true=>rw [e0] at h;cases h
 | false =>
  rw [e0,cond_false] at h
  cases e1:B6 (slE k.l s.2.1 k.w k.fl) 0 k.bl.length s.1 with
  | inr e=>rw [e1] at h;cases h
  | inl ms=>exact ⟨ms,rfl⟩
theorem An2 {h:TCT cPt→Int} (p:PartH h) {g:TCT cGr} {s:TCT cSt} {r:S2} (hl:Aao g.1) (k:StaOk g s) (hf:tkF (ctS g s) (msT s,osT s,[])=.inl r):MSk h (smP h (msT s)) r.1 r.2.2∧r.2.2.length≤129152:=by
 have hp:=Zz (l:=g.1)
 obtain ⟨ms,e1⟩:=B45 hf
 have a:=B3u p (k:=ctS g s) (s:=(msT s,osT s,[])) k.n8 (by show (Iq g.1).length≤1000;omega) k.m k.o e1 hf
 have b:smP h ms=smP h (msT s)∧SM ms:=Bf (n:=(A4 g).length) (Inv:=fun _ (x:Ax)=>smP h x=smP h (msT s)∧SM x) (fun i x x' _ hx h3=>by
  have c:=Avu (h:=h) hl hx.2 h3
  exact ⟨c.1.trans hx.1,c.2⟩) (A4 g).length 0 _ _ (by omega) ⟨rfl,(Af8 k).1⟩ e1
 rw [b.1] at a
 simpa using a
def KR (n:Nat) (ks:Kns):Prop:=∀ i,i<ks.length→(Mb ks i).2.2.1=0→(0≤(Mb ks i).2.2.2.1∧(Mb ks i).2.2.2.1<(n:Int))∧(0≤(Mb ks i).2.2.2.2.1∧(Mb ks i).2.2.2.2.1<(n:Int))
theorem B46 {n:Nat} {o:List Bool} {T:Int}:KV n o T T 0 [] o :=
 ⟨rfl,fun _ h=>absurd h (Nat.not_lt_zero _),fun _ h=>absurd h (Nat.not_lt_zero _),fun _ h=>absurd h (Nat.not_lt_zero _)⟩
theorem B47 {g:TCT cGr} {s:TCT cSt} {r:S2} (k:StaOk g s) (hf:tkF (ctS g s) (msT s,osT s,[])=.inl r):KR (A4 g).length r.2.2:=by
 have kv:KV (A4 g).length (osT s) s.2.2.2.2.1 (s.2.2.2.2.1+1) 0 r.2.2 r.2.1:=Bc4 (k:=ctS g s) (s:=(msT s,osT s,[])) k.n8 (Int.le_refl _) hf B46
 intro i hi h0
 have a:=kv.g i hi
 obtain ⟨b,c,_⟩:=a.ot h0
 exact ⟨a.b,Int.le_trans a.b.1 (Int.le_of_lt b),c⟩
theorem Bhi {bl:List (TCT A3)} {c:TCT Co} {T st w fl:Int} {n:Nat} {s:S2} {r:Ax×Kns} (hn8:n≤8) (h:seF bl c T st w fl n s=.inl r) (hk:KR n s.2.2):KR n r.2:=by
 unfold seF at h
 cases he:(seS bl c w fl n s).2.2.1 != 0 with
 | true=>rw [he] at h;cases h
 | false =>
  rw [he] at h
  cases h
  have e0:=bne_eq_false_iff_eq.1 he
  have hG:InvH s.1 s.2.1 n n (seG bl w fl n s):=A3y
  have hS:=Vi hn8 e0
  refine Bf (n:=(seS bl c w fl n s).2.1.length) (Inv:=fun _ (x:Kns)=>KR n x) (fun j x x' hj hx h3=>?_) (seS bl c w fl n s).2.1.length 0 s.2.2 _ (by omega) hk (Jn (B6 (kpE (seG bl w fl n s).1 (seS bl c w fl n s).2.1 T st) 0 (seS bl c w fl n s).2.1.length s.2.2))
  cases h3
  have pr:Vh (seG bl w fl n s).1.length (Ma (seS bl c w fl n s).2.1 j):=hS.2.2 _ (Ek hj _)
  have l1:Int.toNat (Ma (seS bl c w fl n s).2.1 j).1<(seG bl w fl n s).1.length:=Qs pr.1 (Int.lt_trans pr.2.1 pr.2.2)
  have l2:Int.toNat (Ma (seS bl c w fl n s).2.1 j).2.1<(seG bl w fl n s).1.length:=Qs (Int.le_of_lt (Int.lt_of_le_of_lt pr.1 pr.2.1)) pr.2.2
  intro i hi h0
  rw [List.length_append,List.length_singleton] at hi
  by_cases e:i=x.length
  ·subst e
   rw [Tj]
   exact ⟨hG.g.r _ (Ek l1 _),hG.g.r _ (Ek l2 _)⟩
  ·rw [Ti (by omega)] at h0 ⊢
   exact hx i (by omega) h0
theorem Avv {g:TCT cGr} {s:TCT cSt} {w:TCT cBw} (h:(skV g s w).2.2.1=0):KR (A4 g).length (skV g s w).2.1∧(skV g s w).1.2.2.2.2.1=0∧((skV g s w).2.1:Kns).length≤10000∧∀ i:Nat,i≠Int.toNat w.1→tcB i (skV g s w).2.1=false→A8 (msT (skV g s w).1) i=A8 (msT s) i:=by
 obtain ⟨k,e⟩:=Ajy h
 obtain ⟨k1,k2,k3⟩:=k.set
 have n8:=k.sk.n8
 have hm1:=k1.q.m
 have hi:Int.toNat w.1<(A4 g).length:=Qs k.b.b.1 k.b.b.2
 have hset:∀ i:Nat,i≠Int.toNat w.1→A8 (Km (msT s) w.1 (twP w)) i=A8 (msT s) i:=fun i hne=>by
  unfold Km
  have hm:=k.sk.m
  exact G6 (by omega) hne
 have nil:KR (A4 g).length []:=fun i hi=>absurd hi (Nat.not_lt_zero i)
 rw [e] at h ⊢
 unfold skG at h ⊢
 cases h4:w.2.2.2.1==4 with
 | true =>
  simp only [cond_true]
  exact ⟨nil,rfl,Nat.zero_le _,fun i hne _=>hset i hne⟩
 | false =>
  rw [h4] at h
  simp only [cond_false] at h ⊢
  cases hf:seF (A4 g) g.2.2.1 0 0 w.1 0 (A4 g).length (Km (msT s) w.1 (twP w),osT s,[]) with
  | inr x=>rw [hf] at h;exact absurd h (Zx hf)
  | inl r =>
   rw [hf] at h
   have rel:∀ i,REL i (Km (msT s) w.1 (twP w),osT s,[]) (r.1,osT s,r.2):=fun i=>A6d n8 hf
   have kr:=Bhi n8 hf nil
   have rest:∀ i:Nat,i≠Int.toNat w.1→Gs (A8 (Km (msT s) w.1 (twP w)) i)=true:=fun i hne=>by
    rw [hset i hne];exact Xx k.r i
   have stay:∀ i:Nat,i≠Int.toNat w.1→tcB i r.2=false→A8 r.1 i=A8 (msT s) i:=fun i hne hk=>((rel i).r2 (rest i hne) hk).1.trans (hset i hne)
   have len:r.2.length≤10000:=by
    unfold seF at hf
    cases he:(seS (A4 g) g.2.2.1 w.1 0 (A4 g).length (Km (msT s) w.1 (twP w),osT s,[])).2.2.1 != 0 with
    | true=>rw [he] at hf;cases hf
    | false =>
     rw [he] at hf
     cases hf
     have hS:=Vi n8 (bne_eq_false_iff_eq.1 he)
     have hl:=hS.2.1
     have hk:=Aj0 (W:=(seG (A4 g) w.1 0 (A4 g).length (Km (msT s) w.1 (twP w),osT s,[])).1) (P:=(seS (A4 g) g.2.2.1 w.1 0 (A4 g).length (Km (msT s) w.1 (twP w),osT s,[])).2.1) (t:=0) (st:=0) (ks:=[])
     show (kpV _ _ 0 0 []).length≤10000
     rw [hk]
     simp only [List.length_nil]
     omega
   obtain ⟨ms,ks⟩:=r
   unfold skF at h ⊢
   simp only at h ⊢
   cases hk:decide ((ks.length:Int)>0) with
   | false=>exact ⟨kr,rfl,len,stay⟩
   | true =>
    rw [hk] at h
    cases hg:A6a (skM ms w) w.1 with
    | true=>rw [hg] at h;cases h
    | false =>
     refine ⟨kr,rfl,len,fun i hne hk=>?_⟩
     have ml:(ms:Ax).length=(A4 g).length:=(A6b hf).trans hm1
     show A8 (skM ms w) i=_
     unfold skM mY mX
     rw [Aak,Gj (show Int.toNat w.1<(ms:Ax).length by omega) rfl,G6 (by omega) hne]
     exact stay i hne hk
end St
end V
end Go.Proofs.YtcfanlgpkefogaaGreat
namespace Go.Proofs.YtcfanlgpkefogaaGreat
open Go.RowKit
namespace V
namespace St
structure InvP (l:TCT A5) (p:List (TCT cPt)) (i:Nat) (ms:Ax):Prop where
 ln:ms.length=i
 g:∀ j:Nat,j<i→A8 ms j=A9j (Bc p j (B7 cPt))∧onB l (At4 (Bc p j (B7 cPt)))=true
theorem B48 {l:TCT A5} {p:List (TCT cPt)} {ms:Ax} (h:B6 (f_li l p) 0 p.length []=.inl ms):InvP l p p.length ms :=
 Bf (n:=p.length) (Inv:=fun i (x:Ax)=>InvP l p i x) (fun i x x' hi hx h2=>by
  unfold f_li at h2
  cases ho:At6 l p i with
  | false=>rw [ho] at h2;cases h2
  | true =>
   rw [ho] at h2
   cases h2
   have hl:=hx.ln
   refine ⟨by rw [List.length_append,List.length_singleton,hl],fun j hj=>?_⟩
   unfold A8
   rw [Gz (by omega)]
   by_cases e:j=x.length
   ·rw [if_pos e,e,hl];exact ⟨rfl,ho⟩
   ·rw [if_neg e];exact hx.g j (by omega)) p.length 0 [] ms (by omega) ⟨rfl,fun _ h=>absurd h (Nat.not_lt_zero _)⟩ h
theorem An3 {g:TCT cGr} (h:groE g=0):Ck g.1=0∧(1≤(A4 g).length∧(A4 g).length≤8)∧(A4 g).all Io=true:=by
 unfold groE at h
 cases h1:Ck g.1 != 0 with
 | true=>rw [h1,cond_true] at h;exact absurd h (bne_iff_ne.1 h1)
 | false =>
  rw [h1,cond_false] at h
  cases h2:decide (((A4 g).length:Int)<1)||decide (((A4 g).length:Int)>8) with
  | true=>rw [h2] at h;cases h
  | false =>
   rw [h2,cond_false] at h
   rw [Bool.or_eq_false_iff] at h2
   have a:=of_decide_eq_false h2.1
   have b:=of_decide_eq_false h2.2
   cases h3:okG g with
   | false=>rw [h3] at h;cases h
   | true =>
    unfold okG at h3
    rw [Bool.and_eq_true] at h3
    exact ⟨bne_eq_false_iff_eq.1 h1,⟨by omega,by omega⟩,h3.1⟩
theorem Bhj {l:TCT A5} {p:TCT cPt} (hl:Ck l=0) (h:onB l p=true):fpt p.1 p.2.1=true:=by
 have lo:=Ae1 hl
 unfold onB inR at h
 simp only [Bool.and_eq_true,decide_eq_true_eq] at h
 exact Aup h.1.1 h.2.1 h.1.2 h.2.2 lo.w.2 lo.lg.2
theorem B49 {b:TCT A3} {p:TCT cPt} (hb:Io b=true) (hp:fpt p.1 p.2.1=true):N1 b (A9j p)=true:=by
 have hm:400≤b.1:=by
  unfold Io Ju at hb
  rw [Bool.and_eq_true,Bool.not_eq_true',Bool.not_eq_true'] at hb
  exact (Fc hb.1).1
 unfold N1 Rv
 show (Ju b.1 b.2.1&&(fpt p.1 p.2.1&&(Bo 0 0&&(!Bs 0 (-(32*b.1)) (32*b.1-1)&&!Bs 0 (-(32*b.1)) (32*b.1-1)))))=true
 have ho:Bs 0 (-(32*b.1)) (32*b.1-1)=false:=Af1 (z_in hm)
 rw [show Ju b.1 b.2.1=true from hb,hp,ho]
 rfl
where z_in {m:Int} (h:400≤m) : -(32*m)≤0∧(0:Int)≤32*m-1:=by omega
theorem Bcb {g:TCT cGr} {p:List (TCT cPt)} (h:(G3 g p).2.1=0):StaOk g (G3 g p).1∧Dh (G3 g p).1=true∧(∀ j:Nat,Ci (osT (G3 g p).1) j=false)∧p.length=(A4 g).length:=by
 unfold G3 at h ⊢
 cases h1:groE g != 0 with
 | true=>rw [h1] at h;exact absurd h (bne_iff_ne.1 h1)
 | false =>
  have hg:=bne_eq_false_iff_eq.1 h1
  obtain ⟨hl,⟨n1,n8⟩,hb⟩:=An3 hg
  rw [h1] at h
  simp only [cond_false] at h ⊢
  cases h2:A2v p.length (A4 g).length with
  | true=>rw [h2] at h;cases h
  | false =>
   rw [h2] at h
   simp only [cond_false] at h ⊢
   have hn:p.length=(A4 g).length:=by
    unfold A2v at h2
    have:=bne_eq_false_iff_eq.1 h2
    omega
   cases h3:B6 (f_li g.1 p) 0 p.length [] with
   | inr e=>rw [h3] at h;cases h
   | inl ms =>
    have iv:=B48 h3
    have il:=iv.ln
    have og:∀ j:Nat,Ci (List.replicate p.length false) j=false:=fun j=>by
     unfold Ci
     rw [F7,List.getD_eq_getElem?_getD,List.getElem?_replicate]
     by_cases e:j<p.length
     ·rw [if_pos e];rfl
     ·rw [if_neg e];rfl
    have q:RQ (A4 g) (A4 g).length ms (List.replicate p.length false):=⟨il.trans hn,by rw [List.length_replicate,hn],fun j hj=>by
     obtain ⟨a,b⟩:=iv.g j (by omega)
     rw [a]
     refine B49 ?_ (Bhj (p:=At4 (Bc p j (B7 cPt))) hl b)
     exact List.all_eq_true.1 hb _ (Ek hj _),fun j _ h=>by rw [og j] at h;cases h⟩
    have ol:OL g.1 (A4 g).length ms (List.replicate p.length false):=fun j hj _=>by
     obtain ⟨a,b⟩:=iv.g j (by omega)
     rw [a]
     exact b
    refine ⟨A01 hg n1 n8 q ol ?_,?_,og,hn⟩
    ·show (decide ((0:Int)<0)||(decide ((0:Int)≥((A4 g).length:Int))||(decide ((0:Int)<0)||(decide ((0:Int)>8)||(decide ((0:Int)<0)||decide ((0:Int)>4000))))))=false
     rw [decide_eq_false (show ¬ (0:Int)≥((A4 g).length:Int) by omega)]
     rfl
    ·show (ms:Ax).all Gs=true
     rw [List.all_eq_true]
     intro m hm
     obtain ⟨j,hj,e⟩:=List.getElem_of_mem hm
     have:=(iv.g j (by omega)).1
     unfold A8 at this
     rw [F7,List.getD_eq_getElem?_getD,List.getElem?_eq_getElem hj] at this
     rw [← e]
     rw [show ms[j]=A9j (Bc p j (B7 cPt)) from this]
     rfl
end St
end V
end Go.Proofs.YtcfanlgpkefogaaGreat
namespace Go.Proofs.YtcfanlgpkefogaaGreat
open Go.RowKit
namespace V
namespace St
def Xm (o:List Bool) (x:TCT cKn):List Bool:=Bu (Bu o (Int.toNat x.2.2.2.1) true) (Int.toNat x.2.2.2.2.1) true
def Oq (o:List Bool) (ks:Kns):List Bool:=ks.foldl Xm o
theorem A06 {o:List Bool} {x:TCT cKn}:(Xm o x).length=o.length:=by unfold Xm;rw [Bw,Bw]
theorem A07:∀ (ks:Kns) (o:List Bool),(Oq o ks).length=o.length
 | [],_=>rfl
 | x::ks,o=>(A07 ks (Xm o x)).trans A06
theorem A08 {l:List Bool} {i j:Nat}:i<l.length→Ci (Bu l i true) j=(Ci l j||decide (j=i)):=fun hi=>by
 by_cases e:j=i
 ·rw [Ajk hi e,decide_eq_true e,Bool.or_true]
 ·rw [A6c hi e,decide_eq_false e,Bool.or_false]
theorem B80 {a:Int} {k:Nat} (h:0≤a):(a==(k:Int))=decide (k=Int.toNat a):=by
 by_cases e:k=Int.toNat a
 ·rw [decide_eq_true e];exact beq_iff_eq.2 (by omega)
 ·rw [decide_eq_false e];exact beq_eq_false_iff_ne.2 (by omega)
structure KN (n:Nat) (x:TCT cKn):Prop where
 z:x.2.2.1=0
 b:0≤x.2.2.2.1∧x.2.2.2.1<(n:Int)
 o:0≤x.2.2.2.2.1∧x.2.2.2.2.1<(n:Int)
theorem B4a {o:List Bool} {x:TCT cKn} {n k:Nat} (hl:o.length=n) (h:KN n x):Ci (Xm o x) k=(Ci o k||tcK k x):=by
 unfold Xm
 have h1:Int.toNat x.2.2.2.1<o.length:=by rw [hl];exact Qs h.b.1 h.b.2
 have h2:Int.toNat x.2.2.2.2.1<(Bu o (Int.toNat x.2.2.2.1) true).length:=by rw [Bw,hl];exact Qs h.o.1 h.o.2
 rw [A08 h2,A08 h1]
 unfold tcK
 rw [B80 h.b.1,h.z,B80 h.o.1,show ((0:Int)==0)=true from rfl,Bool.true_and,Bool.or_assoc]
theorem A6f {n k:Nat}:∀ (ks:Kns) (o:List Bool),o.length=n→(∀ x ∈ ks,KN n x)→Ci (Oq o ks) k=(Ci o k||tcB k ks)
 | [],o,_,_=>by
  show Ci o k=(Ci o k||false)
  rw [Bool.or_false]
 | x::ks,o,hl,h=>by
  have ih:=A6f (n:=n) (k:=k) ks (Xm o x) (A06.trans hl) (fun y hy=>h y (List.mem_cons_of_mem _ hy))
  show Ci (Oq (Xm o x) ks) k=(Ci o k||(tcK k x||tcB k ks))
  rw [ih,B4a hl (h x (List.mem_cons_self ..)),Bool.or_assoc]
theorem Avw {n:Nat} {ks:Kns} (h:KR n ks) (hn:ks.any nbK=false):∀ x ∈ ks,KN n x:=fun x hx=>by
 obtain ⟨i,hi,e⟩:=List.getElem_of_mem hx
 have g:Mb ks i=x:=by
  unfold Mb
  rw [F7,List.getD_eq_getElem?_getD,List.getElem?_eq_getElem hi,← e];rfl
 have z:x.2.2.1=0:=by
  have:=List.any_eq_false.1 hn x hx
  unfold nbK at this
  exact bne_eq_false_iff_eq.1 (by simpa using this)
 have a:=h i hi (by rw [g];exact z)
 rw [g] at a
 exact ⟨z,a.1,a.2⟩
structure CI (g:TCT cGr) (s0 t0:TCT cSt) (i:Nat) (t:TCT cSt) (ks:Kns) (hit:List Bool):Prop where
 a:StaOk g t
 tk:t.2.2.2.2.1=(i:Int)
 kr:KR (A4 g).length ks
 kl:ks.length≤129152
 hl:hit.length=(A4 g).length
 d:ks.any nbK=false→∀ h:TCT cPt→Int,PartH h→smP h (msT t)=smP h (msT t0)
 e:∀ k:Nat,Ci hit k=false→tcB k ks=false→A8 (msT t) k=A8 (msT s0) k∧Gs (A8 (msT s0) k)=true
theorem CI.tick {g:TCT cGr} {s0 t0 t:TCT cSt} {i:Nat} {ks:Kns} {hit:List Bool} {r:S2} (c:CI g s0 t0 i t ks hit) (hl:Aao g.1) (hi:i≤100) (hk:ks.any nbK=false) (hf:tkF (ctS g t) (msT t,osT t,[])=.inl r):CI g s0 t0 (i+1) (nxS t r) r.2.2 (Oq hit ks):=by
 have con:=fun h p=>An2 (h:=h) p hl c.a hf
 refine ⟨Tg c.a hf,?_,B47 c.a hf,(con _ .x).2,(A07 _ _).trans c.hl,fun hn h p=>?_,fun k hh hk2=>?_⟩
 ·show W64 (t.2.2.2.2.1+1)=_
  rw [c.tk,Bi (n:=(i:Int)+1) (by omega) (by omega)];rfl
 ·rcases (con h p).1 with a | a
  ·exact a.trans (c.d hk h p)
  ·rw [hn] at a;cases a
 ·rw [A6f ks hit c.hl (Avw c.kr hk),Bool.or_eq_false_iff] at hh
  obtain ⟨e1,e2⟩:=c.e k hh.1 hh.2
  have R:REL k (msT t,osT t,[]) r:=B3j (k:=ctS g t) c.a.n8 hf
  have e3:=R.r2 (by show Gs (A8 (msT t) k)=true;rw [e1];exact e2) hk2
  exact ⟨e3.1.trans e1,e2⟩
theorem CI.zero {g:TCT cGr} {s:TCT cSt} {w:TCT cBw} {hit:List Bool} (h:(skV g s w).2.2.1=0) (hl:hit.length=(A4 g).length) (hw:Ci hit (Int.toNat w.1)=true):CI g s (skV g s w).1 0 (skV g s w).1 (skV g s w).2.1 hit:=by
 obtain ⟨k,_⟩:=Ajy h
 obtain ⟨a,b,c,d⟩:=Avv h
 refine ⟨(Af5 h).1,b,a,by omega,hl,fun _ _ _=>rfl,fun i hh hk=>?_⟩
 have hne:i≠Int.toNat w.1:=fun e=>by rw [e,hw] at hh;cases hh
 exact ⟨d i hne hk,Xx k.r i⟩
end St
end V
end Go.Proofs.YtcfanlgpkefogaaGreat
