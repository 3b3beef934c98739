import Derived.Test.YtlangijnealfjaaGreatFo
namespace Go.Proofs.YtlangijnealfjaaGreat
open Go.RowKit
namespace V
namespace St
theorem Qj {S B:Type} {f:Nat→S→S⊕B} {Inv:Nat→S→Prop} {n:Nat} (h2:∀ i s s',i<n→Inv i s→f i s=.inl s'→Inv (i+1) s'):∀ (k i:Nat) (s:S) (e:B),i+k=n→Inv i s→Ax f i k s=.inr e→∃ j t,j<n∧Inv j t∧f j t=.inr e
 | 0,_,_,_,_,_,h=>by cases h
 | k+1,i,s,e,hk,hi,h=>by
  unfold Ax at h
  cases hf:f i s with
  | inl t=>rw [hf] at h;exact Qj h2 k (i+1) t e (by omega) (h2 i s t (by omega) hi hf) h
  | inr b =>
   rw [hf] at h
   cases h
   exact ⟨i,s,by omega,hi,hf⟩
theorem B13 {bl:List (TCT A3)} {os:List Bool} {i n:Nat} {ms:Au} {e:Int} (hi:i<n) (q:RQ bl n ms os) (h:stE bl os i ms=.inr e):e=4:=by
 unfold stE at h
 cases h1:!Cf ms os i with
 | true=>rw [h1] at h;cases h
 | false =>
  rw [h1] at h
  cases h3:(Qg (Ej bl i) (A9 ms i)).2.1 != 0 with
  | false=>rw [h3] at h;cases h
  | true =>
   rw [h3] at h
   cases h
   have hk:(bm (Ej bl i) (A9 ms i)).ok=true:=q.ok i hi
   show (M3 (bm (Ej bl i) (A9 ms i))).2.1=4
   have h4:((M3 (bm (Ej bl i) (A9 ms i))).2.1 != 0)=true:=h3
   unfold M3 at h4 ⊢
   rw [hk] at h4 ⊢
   cases h5:fpt (sX (bm (Ej bl i) (A9 ms i))) (sY (bm (Ej bl i) (A9 ms i))) with
   | false=>rfl
   | true=>rw [h5] at h4;cases h4
theorem B14 {l:TCT Am} {j:Nat} {T st e:Int} {s:S2} (h:lvE l T st j s=.inr e):False:=by
 unfold lvE at h
 cases e1:As s.2.1 j (Aq .b) with
 | true=>rw [e1] at h;cases h
 | false =>
  rw [e1] at h
  cases e2:onB l (A9 s.1 j).1 with
  | true=>rw [e2] at h;cases h
  | false=>rw [e2] at h;cases h
theorem B15 {bl:List (TCT A3)} {l:TCT Am} {n:Nat} {T st e:Int} {s:S2} (q:RQ bl n s.1 s.2.1) (h:mvF bl l T st n s=.inr e):e=4:=by
 unfold mvF at h
 cases e1:Ax (stE bl s.2.1) 0 n s.1 with
 | inr x =>
  rw [e1] at h
  cases h
  obtain ⟨j,t,hj,ht,hf⟩:=Qj (n:=n) (Inv:=fun _ (x:Au)=>RQ bl n x s.2.1) (fun i s s' hi hq h=>As0 hi h hq) n 0 s.1 e (by omega) q e1
  exact B13 hj ht hf
 | inl ms =>
  rw [e1] at h
  have h2:Ax (lvE l T st) 0 n (ms,s.2.1,s.2.2)=.inr e:=h
  obtain ⟨j,t,hf⟩:=Fq _ _ _ _ h2
  exact (B14 hf).elim
theorem Ahn {bl:List (TCT A3)} {c:TCT Cj} {t st w fl e:Int} {n:Nat} {s:S2} (hn8:n≤8) (q:RQ bl n s.1 s.2.1) (hc:Hw c.1 c.2.1=true) (h:seF bl c t st w fl n s=.inr e):e=4:=by
 have hG:InvH s.1 s.2.1 n n (seG bl w fl n s):=A2z
 have hV:InvV n (seG bl w fl n s):=Bet q
 have hb:=hV.b
 have hm:=hV.m
 have hk:=hG.g.k
 have ck:Mk (seG bl w fl n s).2.1 (seG bl w fl n s).2.2=0:=by
  unfold Mk
  rw [decide_eq_false (show ¬ ((seG bl w fl n s).2.1.length:Int)>8 by omega),show (((seG bl w fl n s).2.1.length:Int)!=((seG bl w fl n s).2.2.length:Int))=false from bne_eq_false_iff_eq.2 (by omega),Aso _ _ (by omega) (fun k hk=>hV.v k (by omega))]
  rfl
 unfold seF at h
 cases he:(seS bl c w fl n s).2.2.1 != 0 with
 | false=>rw [he] at h;cases h
 | true =>
  rw [he] at h
  cases h
  have h4:=bne_iff_ne.1 he
  unfold seS Bw at h4 ⊢
  rw [ck,hc] at h4 ⊢
  cases h5:V.okS (I5 (seG bl w fl n s).2.1 c.1 c.2.1 (seG bl w fl n s).2.1.length 0 ((seG bl w fl n s).2.2,[])) with
  | false=>rfl
  | true=>rw [h5] at h4;exact absurd rfl h4
theorem B16 {b:TCT A3} {c:TCT Cj} {ps:Dss} {os:List Bool} {w fl t st e:Int} {j k:Nat} {s:MK} (h:bpE b c ps os w fl t st j k s=.inr (.inr e)):e=4:=by
 unfold bpE at h
 cases e1:!Cf s.1 os j||Fi w fl j with
 | true=>rw [e1] at h;cases h
 | false =>
  rw [e1] at h
  simp only [cond_false] at h
  cases e2:(bmV b (A9 s.1 j) (Fc ps k) c).2.1==0 with
  | true=>rw [e2] at h;cases h
  | false =>
   rw [e2] at h
   simp only [cond_false] at h
   cases e3:(bmV b (A9 s.1 j) (Fc ps k) c).2.1==4 with
   | true=>rw [e3] at h;cases h;exact beq_iff_eq.1 e3
   | false=>rw [e3] at h;cases h
theorem B17 {bl:List (TCT A3)} {c:TCT Cj} {ps:Dss} {n:Nat} {w fl t st e:Int} {s:S2} (h:buF bl c ps t st w fl n s=.inr e):e=4:=by
 unfold buF at h
 obtain ⟨j,x,hf⟩:=Fq _ _ _ _ h
 have h1:Yd (Ax (bpE (Ej bl j) c ps s.2.1 w fl t st j) 0 ps.length x)=.inr e:=hf
 cases h2:Ax (bpE (Ej bl j) c ps s.2.1 w fl t st j) 0 ps.length x with
 | inl y=>rw [h2] at h1;cases h1
 | inr y =>
  rw [h2] at h1
  cases y with
  | inl z=>cases h1
  | inr z =>
   cases h1
   obtain ⟨i,v,hv⟩:=Fq _ _ _ _ h2
   exact B16 hv
theorem B18 {k:CT} {i:Nat} {s:S2} {e:Int} (hn8:k.bl.length≤8) (hc:Hw k.c.1 k.c.2.1=true) (q:RQ k.bl k.bl.length s.1 s.2.1) (h:tkE k i s=.inr e):e=4:=by
 unfold tkE at h
 cases h1:mvF k.bl k.l k.t ((i+1:Nat):Int) k.bl.length s with
 | inr x=>rw [h1] at h;cases h;exact B15 q h1
 | inl s1 =>
  rw [h1] at h
  simp only at h
  have a:=As1 h1 q
  cases h2:seF k.bl k.c k.t ((i+1:Nat):Int) k.w k.fl k.bl.length s1 with
  | inr x=>rw [h2] at h;cases h;exact Ahn hn8 a.1 hc h2
  | inl s2 =>
   rw [h2] at h
   simp only at h
   cases h3:buF k.bl k.c k.ps k.t ((i+1:Nat):Int) k.w k.fl k.bl.length (s2.1,s1.2.1,s2.2) with
   | inr x=>rw [h3] at h;cases h;exact B17 h3
   | inl s3=>rw [h3] at h;cases h
theorem Ass {g:TCT cGr} {s:TCT cSt} {e:Int} (h:StaOk g s) (ht:s.2.2.2.2.1≠4000) (hf:tkF (ctS g s) (msT s,osT s,[])=.inr e):e=4:=by
 have q:=Yo h
 unfold tkF at hf
 cases h0:(ctS g s).t==4000 with
 | true=>exact absurd (beq_iff_eq.1 h0) ht
 | false =>
  rw [h0] at hf
  simp only [cond_false] at hf
  cases h1:Ax (slE (ctS g s).l (osT s) (ctS g s).w (ctS g s).fl) 0 (ctS g s).bl.length (msT s) with
  | inr x =>
   rw [h1] at hf
   cases hf
   have e2:Ax (slE g.1 (osT s) s.2.2.1 s.2.2.2.1) 0 (A2 g).length (msT s)=.inr e:=h1
   rw [Bed (B8q h)] at e2
   obtain ⟨j,t,hj⟩:=Fq _ _ _ _ e2
   exact Azo hj
  | inl ms =>
   rw [h1] at hf
   have q1:RQ (A2 g) (A2 g).length ms (osT s):=(B6 (n:=(A2 g).length) (Inv:=fun _ (x:Au)=>RQ (A2 g) (A2 g).length x (osT s)∧OL g.1 (A2 g).length x (osT s)) (fun i x x' hi hq h=>Ary hi h hq.1 hq.2) (A2 g).length 0 _ _ (by omega) q h1).1
   have h2:Ax (tkE (ctS g s)) 0 16 (ms,osT s,[])=.inr e:=hf
   obtain ⟨j,t,_,ht,hj⟩:=Qj (n:=16) (Inv:=fun _ (x:S2)=>RQ (A2 g) (A2 g).length x.1 x.2.1) (fun i x x' _ hx h3=>(As7 h3 hx).1) 16 0 (ms,osT s,[]) e (by omega) q1 h2
   exact B18 h.n8 (Ahj h.gr) ht hj
theorem B9l {g:TCT cGr} {s:TCT cSt} {w:TCT cBw} (k:SkOk g s w) (hb:bwB ((A2 g).length:Int) w=false) (h:(skV g s w).2.2.1≠0):(skV g s w).2.2.1=4:=by
 rw [B9h k hb] at h ⊢
 obtain ⟨k1,_,_⟩:=k.set
 unfold skG at h ⊢
 cases h4:w.2.2.2.1==4 with
 | true=>rw [h4] at h;exact absurd rfl h
 | false =>
  rw [h4] at h
  simp only [cond_false] at h ⊢
  cases hf:seF (A2 g) g.2.2.1 0 0 w.1 0 (A2 g).length (He (msT s) w.1 (twP w),osT s,[]) with
  | inr x=>exact Ahn k.sk.n8 k1.q (Ahj k.sk.gr) hf
  | inl r =>
   rw [hf] at h
   obtain ⟨ms,ks⟩:=r
   unfold skF at h ⊢
   simp only at h ⊢
   cases hk:decide ((ks.length:Int)>0) with
   | false=>rw [hk] at h;exact absurd rfl h
   | true =>
    rw [hk] at h
    cases hg:A56 (skM ms w) w.1 with
    | true=>rfl
    | false=>rw [hg] at h;exact absurd rfl h
end St
end V
end Go.Proofs.YtlangijnealfjaaGreat
namespace Go.Proofs.YtlangijnealfjaaGreat
open Go.RowKit
namespace V
namespace St
def B19 (l:TCT Am):Prop:=∀ p:TCT cPt,(Lu l p).1=0∧(Lu l p).2.1=0∧(Lu l p).2.2.1=0
theorem Akl {x y:Int} (h:B9 x y=true):Ni x y 0=((x,y,()),0,()):=by
 unfold Ni
 rw [h,show Bd 0 0 33554432=false from by decide]
 have b:=Ft h
 have hx:0≤x*x:=by rcases Int.le_total 0 x with a | a;exact Int.mul_nonneg a a;exact Int.mul_nonneg_of_nonpos_of_nonpos a a
 have hy:0≤y*y:=by rcases Int.le_total 0 y with a | a;exact Int.mul_nonneg a a;exact Int.mul_nonneg_of_nonpos_of_nonpos a a
 obtain ⟨r1,r2,r3⟩:=Ip (64*(x*x+y*y)) (by omega)
 have e:slN x y=rt (64*(x*x+y*y)):=rfl
 rw [← e] at r1 r2 r3
 cases hd:decide (slN x y≤8*0) with
 | true =>
  have h0:=of_decide_eq_true hd
  have z:slN x y=0:=by omega
  rw [z] at r3
  have x0:x*x=0:=by omega
  have y0:y*y=0:=by omega
  rcases Int.mul_eq_zero.1 x0 with a | a <;> rcases Int.mul_eq_zero.1 y0 with c | c <;> rw [a,c] <;> rfl
 | false =>
  have h0:=of_decide_eq_false hd
  have z:slN x y≠0:=by omega
  show (((x*(slN x y-8*0)).tdiv (slN x y),(y*(slN x y-8*0)).tdiv (slN x y),()),(0:Int),())=_
  rw [Int.mul_zero,Int.sub_zero,Int.mul_tdiv_cancel _ z,Int.mul_tdiv_cancel _ z]
theorem Akm {l:TCT Am} {m:TCT B0} (hl:B19 l) (hm:smB m=true):(Nq l m).2.1=0∧(Aco l m).2.1=m.2.1:=by
 obtain ⟨a,b,c⟩:=hl m.1
 have d:=Ft hm
 have e:Nq l m=((m.2.1.1,m.2.1.2.1,()),0,()):=by
  unfold Nq
  rw [a,b,c,Int.add_zero,Int.add_zero,Be (Int.le_trans (by decide) d.1.1) (Int.le_trans d.1.2 (by decide)),Be (Int.le_trans (by decide) d.2.1) (Int.le_trans d.2.2 (by decide))]
  exact Akl hm
 refine ⟨by rw [e],?_⟩
 unfold Aco
 rw [e]
theorem Ast {h:TCT cPt→Int} {l:TCT Am} {os:List Bool} {w fl:Int} {i:Nat} {ms ms':Au} (hl:B19 l) (hs:SM ms) (e:slE l os w fl i ms=.inl ms'):smP h ms'=smP h ms∧SM ms':=by
 unfold slE at e
 cases h1:!Cf ms os i||Fi w fl i with
 | true=>rw [h1] at e;cases e;exact ⟨rfl,hs⟩
 | false =>
  rw [h1] at e
  cases h2:Gk l (A9 ms i).1 != 0 with
  | true=>rw [h2] at e;cases e
  | false =>
   rw [h2] at e
   cases h3:(Nq l (A9 ms i)).2.1 != 0 with
   | true=>rw [h3] at e;cases e
   | false =>
    rw [h3] at e
    cases e
    have f:=Akm hl (hs i)
    refine ⟨S5 f.2,SM.set hs ?_⟩
    unfold smB
    rw [f.2];exact hs i
theorem RQ.sm {bl:List (TCT A3)} {n:Nat} {ms:Au} {os:List Bool} (q:RQ bl n ms os):SM ms:=fun j=>by
 by_cases hj:j<n
 ·have:=q.ok j hj
  unfold Mj Qo at this
  simp only [Bool.and_eq_true] at this
  exact this.2.2.1
 ·have hm:=q.m
  unfold A9
  rw [F8,List.getD_eq_getElem?_getD,List.getElem?_eq_none (by omega)]
  rfl
theorem B9m {g:TCT cGr} {s:TCT cSt} (h:StaOk g s):SM (msT s)∧(msT s).length≤8:=by
 have hm:=h.m
 have h8:=h.n8
 exact ⟨(Yo h).1.sm,by omega⟩
theorem B1a {k:CT} {s r:S2} (h:tkF k s=.inl r):∃ ms:Au,Ax (slE k.l s.2.1 k.w k.fl) 0 k.bl.length s.1=.inl ms:=by
 unfold tkF at h
 cases e0:k.t==4000 with
 | true=>rw [e0] at h;cases h
 | false =>
  rw [e0,cond_false] at h
  cases e1:Ax (slE k.l s.2.1 k.w k.fl) 0 k.bl.length s.1 with
  | inr e=>rw [e1] at h;cases h
  | inl ms=>exact ⟨ms,rfl⟩
theorem Akn {h:TCT cPt→Int} (p:PartH h) {g:TCT cGr} {s:TCT cSt} {r:S2} (hl:B19 g.1) (k:StaOk g s) (hf:tkF (ctS g s) (msT s,osT s,[])=.inl r):MSk h (smP h (msT s)) r.1 r.2.2∧r.2.2.length≤129152:=by
 have hp:=Ym (l:=g.1)
 obtain ⟨ms,e1⟩:=B1a hf
 have a:=B0y p (k:=ctS g s) (s:=(msT s,osT s,[])) k.n8 (by show (I3 g.1).length≤1000;omega) k.m k.o e1 hf
 have b:smP h ms=smP h (msT s)∧SM ms:=B6 (n:=(A2 g).length) (Inv:=fun _ (x:Au)=>smP h x=smP h (msT s)∧SM x) (fun i x x' _ hx h3=>by
  have c:=Ast (h:=h) hl hx.2 h3
  exact ⟨c.1.trans hx.1,c.2⟩) (A2 g).length 0 _ _ (by omega) ⟨rfl,(B9m k).1⟩ e1
 rw [b.1] at a
 simpa using a
def KR (n:Nat) (ks:Kns):Prop:=∀ i,i<ks.length→(Lc ks i).2.2.1=0→(0≤(Lc ks i).2.2.2.1∧(Lc ks i).2.2.2.1<(n:Int))∧(0≤(Lc ks i).2.2.2.2.1∧(Lc ks i).2.2.2.2.1<(n:Int))
theorem Aho {n:Nat} {o:List Bool} {T:Int}:KV n o T T 0 [] o :=
 ⟨rfl,fun _ h=>absurd h (Nat.not_lt_zero _),fun _ h=>absurd h (Nat.not_lt_zero _),fun _ h=>absurd h (Nat.not_lt_zero _)⟩
theorem B1b {g:TCT cGr} {s:TCT cSt} {r:S2} (k:StaOk g s) (hf:tkF (ctS g s) (msT s,osT s,[])=.inl r):KR (A2 g).length r.2.2:=by
 have kv:KV (A2 g).length (osT s) s.2.2.2.2.1 (s.2.2.2.2.1+1) 0 r.2.2 r.2.1:=Asf (k:=ctS g s) (s:=(msT s,osT s,[])) k.n8 (Int.le_refl _) hf Aho
 intro i hi h0
 have a:=kv.g i hi
 obtain ⟨b,c,_⟩:=a.ot h0
 exact ⟨a.b,Int.le_trans a.b.1 (Int.le_of_lt b),c⟩
theorem Bex {bl:List (TCT A3)} {c:TCT Cj} {T st w fl:Int} {n:Nat} {s:S2} {r:Au×Kns} (hn8:n≤8) (h:seF bl c T st w fl n s=.inl r) (hk:KR n s.2.2):KR n r.2:=by
 unfold seF at h
 cases he:(seS bl c w fl n s).2.2.1 != 0 with
 | true=>rw [he] at h;cases h
 | false =>
  rw [he] at h
  cases h
  have e0:=bne_eq_false_iff_eq.1 he
  have hG:InvH s.1 s.2.1 n n (seG bl w fl n s):=A2z
  have hS:=U7 hn8 e0
  refine B6 (n:=(seS bl c w fl n s).2.1.length) (Inv:=fun _ (x:Kns)=>KR n x) (fun j x x' hj hx h3=>?_) (seS bl c w fl n s).2.1.length 0 s.2.2 _ (by omega) hk (J7 (Ax (kpE (seG bl w fl n s).1 (seS bl c w fl n s).2.1 T st) 0 (seS bl c w fl n s).2.1.length s.2.2))
  cases h3
  have pr:U6 (seG bl w fl n s).1.length (Lz (seS bl c w fl n s).2.1 j):=hS.2.2 _ (Ex hj _)
  have l1:Int.toNat (Lz (seS bl c w fl n s).2.1 j).1<(seG bl w fl n s).1.length:=Q1 pr.1 (Int.lt_trans pr.2.1 pr.2.2)
  have l2:Int.toNat (Lz (seS bl c w fl n s).2.1 j).2.1<(seG bl w fl n s).1.length:=Q1 (Int.le_of_lt (Int.lt_of_le_of_lt pr.1 pr.2.1)) pr.2.2
  intro i hi h0
  rw [List.length_append,List.length_singleton] at hi
  by_cases e:i=x.length
  ·subst e
   rw [S4]
   exact ⟨hG.g.r _ (Ex l1 _),hG.g.r _ (Ex l2 _)⟩
  ·rw [S3 (by omega)] at h0 ⊢
   exact hx i (by omega) h0
theorem Asu {g:TCT cGr} {s:TCT cSt} {w:TCT cBw} (h:(skV g s w).2.2.1=0):KR (A2 g).length (skV g s w).2.1∧(skV g s w).1.2.2.2.2.1=0∧((skV g s w).2.1:Kns).length≤10000∧∀ i:Nat,i≠Int.toNat w.1→tcB i (skV g s w).2.1=false→A9 (msT (skV g s w).1) i=A9 (msT s) i:=by
 obtain ⟨k,e⟩:=Ahh h
 obtain ⟨k1,k2,k3⟩:=k.set
 have n8:=k.sk.n8
 have hm1:=k1.q.m
 have hi:Int.toNat w.1<(A2 g).length:=Q1 k.b.b.1 k.b.b.2
 have hset:∀ i:Nat,i≠Int.toNat w.1→A9 (He (msT s) w.1 (twP w)) i=A9 (msT s) i:=fun i hne=>by
  unfold He
  have hm:=k.sk.m
  exact Fw (by omega) hne
 have nil:KR (A2 g).length []:=fun i hi=>absurd hi (Nat.not_lt_zero i)
 rw [e] at h ⊢
 unfold skG at h ⊢
 cases h4:w.2.2.2.1==4 with
 | true =>
  simp only [cond_true]
  exact ⟨nil,rfl,Nat.zero_le _,fun i hne _=>hset i hne⟩
 | false =>
  rw [h4] at h
  simp only [cond_false] at h ⊢
  cases hf:seF (A2 g) g.2.2.1 0 0 w.1 0 (A2 g).length (He (msT s) w.1 (twP w),osT s,[]) with
  | inr x=>rw [hf] at h;exact absurd h (Yl hf)
  | inl r =>
   rw [hf] at h
   have rel:∀ i,REL i (He (msT s) w.1 (twP w),osT s,[]) (r.1,osT s,r.2):=fun i=>Ahb n8 hf
   have kr:=Bex n8 hf nil
   have rest:∀ i:Nat,i≠Int.toNat w.1→Fz (A9 (He (msT s) w.1 (twP w)) i)=true:=fun i hne=>by
    rw [hset i hne];exact S7 k.r i
   have stay:∀ i:Nat,i≠Int.toNat w.1→tcB i r.2=false→A9 r.1 i=A9 (msT s) i:=fun i hne hk=>((rel i).r2 (rest i hne) hk).1.trans (hset i hne)
   have len:r.2.length≤10000:=by
    unfold seF at hf
    cases he:(seS (A2 g) g.2.2.1 w.1 0 (A2 g).length (He (msT s) w.1 (twP w),osT s,[])).2.2.1 != 0 with
    | true=>rw [he] at hf;cases hf
    | false =>
     rw [he] at hf
     cases hf
     have hS:=U7 n8 (bne_eq_false_iff_eq.1 he)
     have hl:=hS.2.1
     have hk:=Agt (W:=(seG (A2 g) w.1 0 (A2 g).length (He (msT s) w.1 (twP w),osT s,[])).1) (P:=(seS (A2 g) g.2.2.1 w.1 0 (A2 g).length (He (msT s) w.1 (twP w),osT s,[])).2.1) (t:=0) (st:=0) (ks:=[])
     show (kpV _ _ 0 0 []).length≤10000
     rw [hk]
     simp only [List.length_nil]
     omega
   obtain ⟨ms,ks⟩:=r
   unfold skF at h ⊢
   simp only at h ⊢
   cases hk:decide ((ks.length:Int)>0) with
   | false=>exact ⟨kr,rfl,len,stay⟩
   | true =>
    rw [hk] at h
    cases hg:A56 (skM ms w) w.1 with
    | true=>rw [hg] at h;cases h
    | false =>
     refine ⟨kr,rfl,len,fun i hne hk=>?_⟩
     have ml:(ms:Au).length=(A2 g).length:=(Agy hf).trans hm1
     show A9 (skM ms w) i=_
     unfold skM mY mX
     rw [A8s,Io (show Int.toNat w.1<(ms:Au).length by omega) rfl,Fw (by omega) hne]
     exact stay i hne hk
end St
end V
end Go.Proofs.YtlangijnealfjaaGreat
namespace Go.Proofs.YtlangijnealfjaaGreat
open Go.RowKit
namespace V
namespace St
structure InvP (l:TCT Am) (p:List (TCT cPt)) (i:Nat) (ms:Au):Prop where
 ln:ms.length=i
 g:∀ j:Nat,j<i→A9 ms j=Ajw (As p j (Aq cPt))∧onB l (Aq1 (As p j (Aq cPt)))=true
theorem B1c {l:TCT Am} {p:List (TCT cPt)} {ms:Au} (h:Ax (f_li l p) 0 p.length []=.inl ms):InvP l p p.length ms :=
 B6 (n:=p.length) (Inv:=fun i (x:Au)=>InvP l p i x) (fun i x x' hi hx h2=>by
  unfold f_li at h2
  cases ho:Ayn l p i with
  | false=>rw [ho] at h2;cases h2
  | true =>
   rw [ho] at h2
   cases h2
   have hl:=hx.ln
   refine ⟨by rw [List.length_append,List.length_singleton,hl],fun j hj=>?_⟩
   unfold A9
   rw [Gl (by omega)]
   by_cases e:j=x.length
   ·rw [if_pos e,e,hl];exact ⟨rfl,ho⟩
   ·rw [if_neg e];exact hx.g j (by omega)) p.length 0 [] ms (by omega) ⟨rfl,fun _ h=>absurd h (Nat.not_lt_zero _)⟩ h
theorem Ako {g:TCT cGr} (h:groE g=0):Cp g.1=0∧(1≤(A2 g).length∧(A2 g).length≤8)∧(A2 g).all I1=true:=by
 unfold groE at h
 cases h1:Cp g.1 != 0 with
 | true=>rw [h1,cond_true] at h;exact absurd h (bne_iff_ne.1 h1)
 | false =>
  rw [h1,cond_false] at h
  cases h2:decide (((A2 g).length:Int)<1)||decide (((A2 g).length:Int)>8) with
  | true=>rw [h2] at h;cases h
  | false =>
   rw [h2,cond_false] at h
   rw [Bool.or_eq_false_iff] at h2
   have a:=of_decide_eq_false h2.1
   have b:=of_decide_eq_false h2.2
   cases h3:okG g with
   | false=>rw [h3] at h;cases h
   | true =>
    unfold okG at h3
    rw [Bool.and_eq_true] at h3
    exact ⟨bne_eq_false_iff_eq.1 h1,⟨by omega,by omega⟩,h3.1⟩
theorem Bey {l:TCT Am} {p:TCT cPt} (hl:Cp l=0) (h:onB l p=true):fpt p.1 p.2.1=true:=by
 have lo:=Acd hl
 unfold onB inR at h
 simp only [Bool.and_eq_true,decide_eq_true_eq] at h
 exact Arh h.1.1 h.2.1 h.1.2 h.2.2 lo.w.2 lo.lg.2
theorem B1d {b:TCT A3} {p:TCT cPt} (hb:I1 b=true) (hp:fpt p.1 p.2.1=true):Mj b (Ajw p)=true:=by
 have hm:400≤b.1:=by
  unfold I1 Jc at hb
  rw [Bool.and_eq_true,Bool.not_eq_true',Bool.not_eq_true'] at hb
  exact (F4 hb.1).1
 unfold Mj Qo
 show (Jc b.1 b.2.1&&(fpt p.1 p.2.1&&(B9 0 0&&(!Bd 0 (-(32*b.1)) (32*b.1-1)&&!Bd 0 (-(32*b.1)) (32*b.1-1)))))=true
 have ho:Bd 0 (-(32*b.1)) (32*b.1-1)=false:=Add (z_in hm)
 rw [show Jc b.1 b.2.1=true from hb,hp,ho]
 rfl
where z_in {m:Int} (h:400≤m) : -(32*m)≤0∧(0:Int)≤32*m-1:=by omega
theorem B9n {g:TCT cGr} {p:List (TCT cPt)} (h:(Hd g p).2.1=0):StaOk g (Hd g p).1∧D5 (Hd g p).1=true∧(∀ j:Nat,Di (osT (Hd g p).1) j=false)∧p.length=(A2 g).length:=by
 unfold Hd at h ⊢
 cases h1:groE g != 0 with
 | true=>rw [h1] at h;exact absurd h (bne_iff_ne.1 h1)
 | false =>
  have hg:=bne_eq_false_iff_eq.1 h1
  obtain ⟨hl,⟨n1,n8⟩,hb⟩:=Ako hg
  rw [h1] at h
  simp only [cond_false] at h ⊢
  cases h2:A7x p.length (A2 g).length with
  | true=>rw [h2] at h;cases h
  | false =>
   rw [h2] at h
   simp only [cond_false] at h ⊢
   have hn:p.length=(A2 g).length:=by
    unfold A7x at h2
    have:=bne_eq_false_iff_eq.1 h2
    omega
   cases h3:Ax (f_li g.1 p) 0 p.length [] with
   | inr e=>rw [h3] at h;cases h
   | inl ms =>
    have iv:=B1c h3
    have il:=iv.ln
    have og:∀ j:Nat,Di (List.replicate p.length false) j=false:=fun j=>by
     unfold Di
     rw [F8,List.getD_eq_getElem?_getD,List.getElem?_replicate]
     by_cases e:j<p.length
     ·rw [if_pos e];rfl
     ·rw [if_neg e];rfl
    have q:RQ (A2 g) (A2 g).length ms (List.replicate p.length false):=⟨il.trans hn,by rw [List.length_replicate,hn],fun j hj=>by
     obtain ⟨a,b⟩:=iv.g j (by omega)
     rw [a]
     refine B1d ?_ (Bey (p:=Aq1 (As p j (Aq cPt))) hl b)
     exact List.all_eq_true.1 hb _ (Ex hj _),fun j _ h=>by rw [og j] at h;cases h⟩
    have ol:OL g.1 (A2 g).length ms (List.replicate p.length false):=fun j hj _=>by
     obtain ⟨a,b⟩:=iv.g j (by omega)
     rw [a]
     exact b
    refine ⟨Yp hg n1 n8 q ol ?_,?_,og,hn⟩
    ·show (decide ((0:Int)<0)||(decide ((0:Int)≥((A2 g).length:Int))||(decide ((0:Int)<0)||(decide ((0:Int)>8)||(decide ((0:Int)<0)||decide ((0:Int)>4000))))))=false
     rw [decide_eq_false (show ¬ (0:Int)≥((A2 g).length:Int) by omega)]
     rfl
    ·show (ms:Au).all Fz=true
     rw [List.all_eq_true]
     intro m hm
     obtain ⟨j,hj,e⟩:=List.getElem_of_mem hm
     have:=(iv.g j (by omega)).1
     unfold A9 at this
     rw [F8,List.getD_eq_getElem?_getD,List.getElem?_eq_getElem hj] at this
     rw [← e]
     rw [show ms[j]=Ajw (As p j (Aq cPt)) from this]
     rfl
end St
end V
end Go.Proofs.YtlangijnealfjaaGreat
namespace Go.Proofs.YtlangijnealfjaaGreat
open Go.RowKit
namespace V
namespace St
def A8v (o:List Bool) (x:TCT cKn):List Bool:=Bf (Bf o (Int.toNat x.2.2.2.1) true) (Int.toNat x.2.2.2.2.1) true
def B1e (o:List Bool) (ks:Kns):List Bool:=ks.foldl A8v o
theorem A8w {o:List Bool} {x:TCT cKn}:(A8v o x).length=o.length:=by unfold A8v;rw [C0,C0]
theorem A8x:∀ (ks:Kns) (o:List Bool),(B1e o ks).length=o.length
 | [],_=>rfl
 | x::ks,o=>(A8x ks (A8v o x)).trans A8w
theorem A8y {l:List Bool} {i j:Nat}:i<l.length→Di (Bf l i true) j=(Di l j||decide (j=i)):=fun hi=>by
 by_cases e:j=i
 ·rw [Ah4 hi e,decide_eq_true e,Bool.or_true]
 ·rw [A57 hi e,decide_eq_false e,Bool.or_false]
theorem B5d {a:Int} {k:Nat} (h:0≤a):(a==(k:Int))=decide (k=Int.toNat a):=by
 by_cases e:k=Int.toNat a
 ·rw [decide_eq_true e];exact beq_iff_eq.2 (by omega)
 ·rw [decide_eq_false e];exact beq_eq_false_iff_ne.2 (by omega)
structure KN (n:Nat) (x:TCT cKn):Prop where
 z:x.2.2.1=0
 b:0≤x.2.2.2.1∧x.2.2.2.1<(n:Int)
 o:0≤x.2.2.2.2.1∧x.2.2.2.2.1<(n:Int)
theorem B1f {o:List Bool} {x:TCT cKn} {n k:Nat} (hl:o.length=n) (h:KN n x):Di (A8v o x) k=(Di o k||tcK k x):=by
 unfold A8v
 have h1:Int.toNat x.2.2.2.1<o.length:=by rw [hl];exact Q1 h.b.1 h.b.2
 have h2:Int.toNat x.2.2.2.2.1<(Bf o (Int.toNat x.2.2.2.1) true).length:=by rw [C0,hl];exact Q1 h.o.1 h.o.2
 rw [A8y h2,A8y h1]
 unfold tcK
 rw [B5d h.b.1,h.z,B5d h.o.1,show ((0:Int)==0)=true from rfl,Bool.true_and,Bool.or_assoc]
theorem Ahp {n k:Nat}:∀ (ks:Kns) (o:List Bool),o.length=n→(∀ x ∈ ks,KN n x)→Di (B1e o ks) k=(Di o k||tcB k ks)
 | [],o,_,_=>by
  show Di o k=(Di o k||false)
  rw [Bool.or_false]
 | x::ks,o,hl,h=>by
  have ih:=Ahp (n:=n) (k:=k) ks (A8v o x) (A8w.trans hl) (fun y hy=>h y (List.mem_cons_of_mem _ hy))
  show Di (B1e (A8v o x) ks) k=(Di o k||(tcK k x||tcB k ks))
  rw [ih,B1f hl (h x (List.mem_cons_self ..)),Bool.or_assoc]
theorem B9o {n:Nat} {ks:Kns} (h:KR n ks) (hn:ks.any nbK=false):∀ x ∈ ks,KN n x:=fun x hx=>by
 obtain ⟨i,hi,e⟩:=List.getElem_of_mem hx
 have g:Lc ks i=x:=by
  unfold Lc
  rw [F8,List.getD_eq_getElem?_getD,List.getElem?_eq_getElem hi,← e];rfl
 have z:x.2.2.1=0:=by
  have:=List.any_eq_false.1 hn x hx
  unfold nbK at this
  exact bne_eq_false_iff_eq.1 (by simpa using this)
 have a:=h i hi (by rw [g];exact z)
 rw [g] at a
 exact ⟨z,a.1,a.2⟩
structure CI (g:TCT cGr) (s0 t0:TCT cSt) (i:Nat) (t:TCT cSt) (ks:Kns) (hit:List Bool):Prop where
 a:StaOk g t
 tk:t.2.2.2.2.1=(i:Int)
 kr:KR (A2 g).length ks
 kl:ks.length≤129152
 hl:hit.length=(A2 g).length
 d:ks.any nbK=false→∀ h:TCT cPt→Int,PartH h→smP h (msT t)=smP h (msT t0)
 e:∀ k:Nat,Di hit k=false→tcB k ks=false→A9 (msT t) k=A9 (msT s0) k∧Fz (A9 (msT s0) k)=true
theorem CI.tick {g:TCT cGr} {s0 t0 t:TCT cSt} {i:Nat} {ks:Kns} {hit:List Bool} {r:S2} (c:CI g s0 t0 i t ks hit) (hl:B19 g.1) (hi:i≤100) (hk:ks.any nbK=false) (hf:tkF (ctS g t) (msT t,osT t,[])=.inl r):CI g s0 t0 (i+1) (nxS t r) r.2.2 (B1e hit ks):=by
 have con:=fun h p=>Akn (h:=h) p hl c.a hf
 refine ⟨O1 c.a hf,?_,B1b c.a hf,(con _ .x).2,(A8x _ _).trans c.hl,fun hn h p=>?_,fun k hh hk2=>?_⟩
 ·show W64 (t.2.2.2.2.1+1)=_
  rw [c.tk,Be (n:=(i:Int)+1) (by omega) (by omega)];rfl
 ·rcases (con h p).1 with a | a
  ·exact a.trans (c.d hk h p)
  ·rw [hn] at a;cases a
 ·rw [Ahp ks hit c.hl (B9o c.kr hk),Bool.or_eq_false_iff] at hh
  obtain ⟨e1,e2⟩:=c.e k hh.1 hh.2
  have R:REL k (msT t,osT t,[]) r:=Ahd (k:=ctS g t) c.a.n8 hf
  have e3:=R.r2 (by show Fz (A9 (msT t) k)=true;rw [e1];exact e2) hk2
  exact ⟨e3.1.trans e1,e2⟩
theorem CI.zero {g:TCT cGr} {s:TCT cSt} {w:TCT cBw} {hit:List Bool} (h:(skV g s w).2.2.1=0) (hl:hit.length=(A2 g).length) (hw:Di hit (Int.toNat w.1)=true):CI g s (skV g s w).1 0 (skV g s w).1 (skV g s w).2.1 hit:=by
 obtain ⟨k,_⟩:=Ahh h
 obtain ⟨a,b,c,d⟩:=Asu h
 refine ⟨(Asn h).1,b,a,by omega,hl,fun _ _ _=>rfl,fun i hh hk=>?_⟩
 have hne:i≠Int.toNat w.1:=fun e=>by rw [e,hw] at hh;cases hh
 exact ⟨d i hne hk,S7 k.r i⟩
end St
end V
end Go.Proofs.YtlangijnealfjaaGreat
