import Derived.Test.YtlangijnealfjaaGreatFo
namespace Go.Proofs.YtlangijnealfjaaGreat
open Go.RowKit
namespace V
namespace St
theorem Wx {S B:Type} {f:Nat→S→S⊕B} {Inv:Nat→S→Prop} {n:Nat} (h2:∀ i s s',i<n→Inv i s→f i s=.inl s'→Inv (i+1) s'):∀ (k i:Nat) (s:S) (e:B),i+k=n→Inv i s→An f i k s=.inr e→∃ j t,j<n∧Inv j t∧f j t=.inr e
 | 0,_,_,_,_,_,h=>by cases h
 | k+1,i,s,e,hk,hi,h=>by
  unfold An at h
  cases hf:f i s with
  | inl t=>rw [hf] at h;exact Wx h2 k (i+1) t e (by omega) (h2 i s t (by omega) hi hf) h
  | inr b =>
   rw [hf] at h
   cases h
   exact ⟨i,s,by omega,hi,hf⟩
theorem Awe {l:TCT A8} {j:Nat} {T st e:Int} {s:S2} (h:lvE l T st j s=.inr e):False:=by
 unfold lvE at h
 cases e1:Al s.2.1 j (Ak .b) with
 | true=>rw [e1] at h;cases h
 | false =>
  rw [e1] at h
  cases e2:onB l (A9 s.1 j).1 with
  | true=>rw [e2] at h;cases h
  | false=>rw [e2] at h;cases h
end St
end V
end Go.Proofs.YtlangijnealfjaaGreat
namespace Go.Proofs.YtlangijnealfjaaGreat
open Go.RowKit
namespace V
namespace St
def Awf (l:TCT A8):Prop:=∀ p:TCT cPt,(Kk l p).1=0∧(Kk l p).2.1=0∧(Kk l p).2.2.1=0
theorem Ah4 {x y:Int} (h:B1 x y=true):M5 x y 0=((x,y,()),0,()):=by
 unfold M5
 rw [h,show B6 0 0 33554432=false from by decide]
 have b:=Em h
 have hx:0≤x*x:=by rcases Int.le_total 0 x with a | a;exact Int.mul_nonneg a a;exact Int.mul_nonneg_of_nonpos_of_nonpos a a
 have hy:0≤y*y:=by rcases Int.le_total 0 y with a | a;exact Int.mul_nonneg a a;exact Int.mul_nonneg_of_nonpos_of_nonpos a a
 obtain ⟨r1,r2,r3⟩:=Gt (64*(x*x+y*y)) (by omega)
 have e:slN x y=rt (64*(x*x+y*y)):=rfl
 rw [← e] at r1 r2 r3
 cases hd:decide (slN x y≤8*0) with
 | true =>
  have h0:=of_decide_eq_true hd
  have z:slN x y=0:=by omega
  rw [z] at r3
  have x0:x*x=0:=by omega
  have y0:y*y=0:=by omega
  rcases Int.mul_eq_zero.1 x0 with a | a <;> rcases Int.mul_eq_zero.1 y0 with c | c <;> rw [a,c] <;> rfl
 | false =>
  have h0:=of_decide_eq_false hd
  have z:slN x y≠0:=by omega
  show (((x*(slN x y-8*0)).tdiv (slN x y),(y*(slN x y-8*0)).tdiv (slN x y),()),(0:Int),())=_
  rw [Int.mul_zero,Int.sub_zero,Int.mul_tdiv_cancel _ z,Int.mul_tdiv_cancel _ z]
theorem Ah5 {l:TCT A8} {m:TCT Au} (hl:Awf l) (hm:smB m=true):(P2 l m).2.1=0∧(Agn l m).2.1=m.2.1:=by
 obtain ⟨a,b,c⟩:=hl m.1
 have d:=Em hm
 have e:P2 l m=((m.2.1.1,m.2.1.2.1,()),0,()):=by
  unfold P2
  rw [a,b,c,Int.add_zero,Int.add_zero,B5 (Int.le_trans (by decide) d.1.1) (Int.le_trans d.1.2 (by decide)),B5 (Int.le_trans (by decide) d.2.1) (Int.le_trans d.2.2 (by decide))]
  exact Ah4 hm
 refine ⟨by rw [e],?_⟩
 unfold Agn
 rw [e]
theorem Aox {h:TCT cPt→Int} {l:TCT A8} {os:List Bool} {w fl:Int} {i:Nat} {ms ms':Ar} (hl:Awf l) (hs:SM ms) (e:slE l os w fl i ms=.inl ms'):smP h ms'=smP h ms∧SM ms':=by
 unfold slE at e
 cases h1:!C6 ms os i||Fj w fl i with
 | true=>rw [h1] at e;cases e;exact ⟨rfl,hs⟩
 | false =>
  rw [h1] at e
  cases h2:Hy l (A9 ms i).1 != 0 with
  | true=>rw [h2] at e;cases e
  | false =>
   rw [h2] at e
   cases h3:(P2 l (A9 ms i)).2.1 != 0 with
   | true=>rw [h3] at e;cases e
   | false =>
    rw [h3] at e
    cases e
    have f:=Ah5 hl (hs i)
    refine ⟨Qg f.2,SM.set hs ?_⟩
    unfold smB
    rw [f.2];exact hs i
theorem RQ.sm {bl:List (TCT A2)} {n:Nat} {ms:Ar} {os:List Bool} (q:RQ bl n ms os):SM ms:=fun j=>by
 by_cases hj:j<n
 ·have:=q.ok j hj
  unfold La P8 at this
  simp only [Bool.and_eq_true] at this
  exact this.2.2.1
 ·have hm:=q.m
  unfold A9
  rw [Cf,List.getD_eq_getElem?_getD,List.getElem?_eq_none (by omega)]
  rfl
theorem B39 {g:TCT cGr} {s:TCT cSt} (h:StaOk g s):SM (msT s)∧(msT s).length≤8:=by
 have hm:=h.m
 have h8:=h.n8
 exact ⟨(Ws h).1.sm,by omega⟩
theorem Awg {k:CT} {s r:S2} (h:tkF k s=.inl r):∃ ms:Ar,An (slE k.l s.2.1 k.w k.fl) 0 k.bl.length s.1=.inl ms:=by
 unfold tkF at h
 cases e0:k.t==4000 with
 | true=>rw [e0] at h;cases h
 | false =>
  rw [e0,cond_false] at h
  cases e1:An (slE k.l s.2.1 k.w k.fl) 0 k.bl.length s.1 with
  | inr e=>rw [e1] at h;cases h
  | inl ms=>exact ⟨ms,rfl⟩
theorem Ah6 {h:TCT cPt→Int} (p:PartH h) {g:TCT cGr} {s:TCT cSt} {r:S2} (hl:Awf g.1) (k:StaOk g s) (hf:tkF (ctS g s) (msT s,osT s,[])=.inl r):MSk h (smP h (msT s)) r.1 r.2.2∧r.2.2.length≤129152:=by
 have hp:=Wq (l:=g.1)
 obtain ⟨ms,e1⟩:=Awg hf
 have a:=Aw8 p (k:=ctS g s) (s:=(msT s,osT s,[])) k.n8 (by show (J8 g.1).length≤1000;omega) k.m k.o e1 hf
 have b:smP h ms=smP h (msT s)∧SM ms:=Az (n:=(A5 g).length) (Inv:=fun _ (x:Ar)=>smP h x=smP h (msT s)∧SM x) (fun i x x' _ hx h3=>by
  have c:=Aox (h:=h) hl hx.2 h3
  exact ⟨c.1.trans hx.1,c.2⟩) (A5 g).length 0 _ _ (by omega) ⟨rfl,(B39 k).1⟩ e1
 rw [b.1] at a
 simpa using a
def KR (n:Nat) (ks:Kns):Prop:=∀ i,i<ks.length→(Lc ks i).2.2.1=0→(0≤(Lc ks i).2.2.2.1∧(Lc ks i).2.2.2.1<(n:Int))∧(0≤(Lc ks i).2.2.2.2.1∧(Lc ks i).2.2.2.2.1<(n:Int))
theorem Awh {n:Nat} {o:List Bool} {T:Int}:KV n o T T 0 [] o :=
 ⟨rfl,fun _ h=>absurd h (Nat.not_lt_zero _),fun _ h=>absurd h (Nat.not_lt_zero _),fun _ h=>absurd h (Nat.not_lt_zero _)⟩
theorem Awi {g:TCT cGr} {s:TCT cSt} {r:S2} (k:StaOk g s) (hf:tkF (ctS g s) (msT s,osT s,[])=.inl r):KR (A5 g).length r.2.2:=by
 have kv:KV (A5 g).length (osT s) s.2.2.2.2.1 (s.2.2.2.2.1+1) 0 r.2.2 r.2.1:=B33 (k:=ctS g s) (s:=(msT s,osT s,[])) k.n8 (Int.le_refl _) hf Awh
 intro i hi h0
 have a:=kv.g i hi
 obtain ⟨b,c,_⟩:=a.ot h0
 exact ⟨a.b,Int.le_trans a.b.1 (Int.le_of_lt b),c⟩
theorem B7y {bl:List (TCT A2)} {c:TCT Cc} {T st w fl:Int} {n:Nat} {s:S2} {r:Ar×Kns} (hn8:n≤8) (h:seF bl c T st w fl n s=.inl r) (hk:KR n s.2.2):KR n r.2:=by
 unfold seF at h
 cases he:(seS bl c w fl n s).2.2.1 != 0 with
 | true=>rw [he] at h;cases h
 | false =>
  rw [he] at h
  cases h
  have e0:=bne_eq_false_iff_eq.1 he
  have hG:InvH s.1 s.2.1 n n (seG bl w fl n s):=Ts
  have hS:=S9 hn8 e0
  refine Az (n:=(seS bl c w fl n s).2.1.length) (Inv:=fun _ (x:Kns)=>KR n x) (fun j x x' hj hx h3=>?_) (seS bl c w fl n s).2.1.length 0 s.2.2 _ (by omega) hk (I8 (An (kpE (seG bl w fl n s).1 (seS bl c w fl n s).2.1 T st) 0 (seS bl c w fl n s).2.1.length s.2.2))
  cases h3
  have pr:S8 (seG bl w fl n s).1.length (Km (seS bl c w fl n s).2.1 j):=hS.2.2 _ (Ck hj _)
  have l1:Int.toNat (Km (seS bl c w fl n s).2.1 j).1<(seG bl w fl n s).1.length:=Od pr.1 (Int.lt_trans pr.2.1 pr.2.2)
  have l2:Int.toNat (Km (seS bl c w fl n s).2.1 j).2.1<(seG bl w fl n s).1.length:=Od (Int.le_of_lt (Int.lt_of_le_of_lt pr.1 pr.2.1)) pr.2.2
  intro i hi h0
  rw [List.length_append,List.length_singleton] at hi
  by_cases e:i=x.length
  ·subst e
   rw [Qf]
   exact ⟨hG.g.r _ (Ck l1 _),hG.g.r _ (Ck l2 _)⟩
  ·rw [Qe (by omega)] at h0 ⊢
   exact hx i (by omega) h0
theorem B3a {g:TCT cGr} {s:TCT cSt} {w:TCT cBw} (h:(skV g s w).2.2.1=0):KR (A5 g).length (skV g s w).2.1∧(skV g s w).1.2.2.2.2.1=0∧((skV g s w).2.1:Kns).length≤10000∧∀ i:Nat,i≠Int.toNat w.1→tcB i (skV g s w).2.1=false→A9 (msT (skV g s w).1) i=A9 (msT s) i:=by
 obtain ⟨k,e⟩:=Aoq h
 obtain ⟨k1,k2,k3⟩:=k.set
 have n8:=k.sk.n8
 have hm1:=k1.q.m
 have hi:Int.toNat w.1<(A5 g).length:=Od k.b.b.1 k.b.b.2
 have hset:∀ i:Nat,i≠Int.toNat w.1→A9 (P3 (msT s) w.1 (twP w)) i=A9 (msT s) i:=fun i hne=>by
  unfold P3
  have hm:=k.sk.m
  exact Eu (by omega) hne
 have nil:KR (A5 g).length []:=fun i hi=>absurd hi (Nat.not_lt_zero i)
 rw [e] at h ⊢
 unfold skG at h ⊢
 cases h4:w.2.2.2.1==4 with
 | true =>
  simp only [cond_true]
  exact ⟨nil,rfl,Nat.zero_le _,fun i hne _=>hset i hne⟩
 | false =>
  rw [h4] at h
  simp only [cond_false] at h ⊢
  cases hf:seF (A5 g) g.2.2.1 0 0 w.1 0 (A5 g).length (P3 (msT s) w.1 (twP w),osT s,[]) with
  | inr x=>rw [hf] at h;exact absurd h (Aak hf)
  | inl r =>
   rw [hf] at h
   have rel:∀ i,REL i (P3 (msT s) w.1 (twP w),osT s,[]) (r.1,osT s,r.2):=fun i=>A36 n8 hf
   have kr:=B7y n8 hf nil
   have rest:∀ i:Nat,i≠Int.toNat w.1→Ey (A9 (P3 (msT s) w.1 (twP w)) i)=true:=fun i hne=>by
    rw [hset i hne];exact V8 k.r i
   have stay:∀ i:Nat,i≠Int.toNat w.1→tcB i r.2=false→A9 r.1 i=A9 (msT s) i:=fun i hne hk=>((rel i).r2 (rest i hne) hk).1.trans (hset i hne)
   have len:r.2.length≤10000:=by
    unfold seF at hf
    cases he:(seS (A5 g) g.2.2.1 w.1 0 (A5 g).length (P3 (msT s) w.1 (twP w),osT s,[])).2.2.1 != 0 with
    | true=>rw [he] at hf;cases hf
    | false =>
     rw [he] at hf
     cases hf
     have hS:=S9 n8 (bne_eq_false_iff_eq.1 he)
     have hl:=hS.2.1
     have hk:=Adv (W:=(seG (A5 g) w.1 0 (A5 g).length (P3 (msT s) w.1 (twP w),osT s,[])).1) (P:=(seS (A5 g) g.2.2.1 w.1 0 (A5 g).length (P3 (msT s) w.1 (twP w),osT s,[])).2.1) (t:=0) (st:=0) (ks:=[])
     show (kpV _ _ 0 0 []).length≤10000
     rw [hk]
     simp only [List.length_nil]
     omega
   obtain ⟨ms,ks⟩:=r
   unfold skF at h ⊢
   simp only at h ⊢
   cases hk:decide ((ks.length:Int)>0) with
   | false=>exact ⟨kr,rfl,len,stay⟩
   | true =>
    rw [hk] at h
    cases hg:Agw (skM ms w) w.1 with
    | true=>rw [hg] at h;cases h
    | false =>
     refine ⟨kr,rfl,len,fun i hne hk=>?_⟩
     have ml:(ms:Ar).length=(A5 g).length:=(Avm hf).trans hm1
     show A9 (skM ms w) i=_
     unfold skM mY mX
     rw [A6m,Hq (show Int.toNat w.1<(ms:Ar).length by omega) rfl,Eu (by omega) hne]
     exact stay i hne hk
end St
end V
end Go.Proofs.YtlangijnealfjaaGreat
namespace Go.Proofs.YtlangijnealfjaaGreat
open Go.RowKit
namespace V
namespace St
structure InvP (l:TCT A8) (p:List (TCT cPt)) (i:Nat) (ms:Ar):Prop where
 ln:ms.length=i
 g:∀ j:Nat,j<i→A9 ms j=A02 (Al p j (Ak cPt))∧onB l (Amk (Al p j (Ak cPt)))=true
theorem Aei {l:TCT A8} {p:List (TCT cPt)} {ms:Ar} (h:An (f_li l p) 0 p.length []=.inl ms):InvP l p p.length ms :=
 Az (n:=p.length) (Inv:=fun i (x:Ar)=>InvP l p i x) (fun i x x' hi hx h2=>by
  unfold f_li at h2
  cases ho:Amm l p i with
  | false=>rw [ho] at h2;cases h2
  | true =>
   rw [ho] at h2
   cases h2
   have hl:=hx.ln
   refine ⟨by rw [List.length_append,List.length_singleton,hl],fun j hj=>?_⟩
   unfold A9
   rw [Fu (by omega)]
   by_cases e:j=x.length
   ·rw [if_pos e,e,hl];exact ⟨rfl,ho⟩
   ·rw [if_neg e];exact hx.g j (by omega)) p.length 0 [] ms (by omega) ⟨rfl,fun _ h=>absurd h (Nat.not_lt_zero _)⟩ h
theorem Ah7 {g:TCT cGr} (h:groE g=0):Cd g.1=0∧(1≤(A5 g).length∧(A5 g).length≤8)∧(A5 g).all H8=true:=by
 unfold groE at h
 cases h1:Cd g.1 != 0 with
 | true=>rw [h1,cond_true] at h;exact absurd h (bne_iff_ne.1 h1)
 | false =>
  rw [h1,cond_false] at h
  cases h2:decide (((A5 g).length:Int)<1)||decide (((A5 g).length:Int)>8) with
  | true=>rw [h2] at h;cases h
  | false =>
   rw [h2,cond_false] at h
   rw [Bool.or_eq_false_iff] at h2
   have a:=of_decide_eq_false h2.1
   have b:=of_decide_eq_false h2.2
   cases h3:okG g with
   | false=>rw [h3] at h;cases h
   | true =>
    unfold okG at h3
    rw [Bool.and_eq_true] at h3
    exact ⟨bne_eq_false_iff_eq.1 h1,⟨by omega,by omega⟩,h3.1⟩
theorem B7z {l:TCT A8} {p:TCT cPt} (hl:Cd l=0) (h:onB l p=true):fpt p.1 p.2.1=true:=by
 have lo:=Am1 hl
 unfold onB inR at h
 simp only [Bool.and_eq_true,decide_eq_true_eq] at h
 exact B2c h.1.1 h.2.1 h.1.2 h.2.2 lo.w.2 lo.lg.2
theorem Awj {b:TCT A2} {p:TCT cPt} (hb:H8 b=true) (hp:fpt p.1 p.2.1=true):La b (A02 p)=true:=by
 have hm:400≤b.1:=by
  unfold H8 Ie at hb
  rw [Bool.and_eq_true,Bool.not_eq_true',Bool.not_eq_true'] at hb
  exact (Eb hb.1).1
 unfold La P8
 show (Ie b.1 b.2.1&&(fpt p.1 p.2.1&&(B1 0 0&&(!B6 0 (-(32*b.1)) (32*b.1-1)&&!B6 0 (-(32*b.1)) (32*b.1-1)))))=true
 have ho:B6 0 (-(32*b.1)) (32*b.1-1)=false:=Aan (z_in hm)
 rw [show Ie b.1 b.2.1=true from hb,hp,ho]
 rfl
where z_in {m:Int} (h:400≤m) : -(32*m)≤0∧(0:Int)≤32*m-1:=by omega
theorem B3b {g:TCT cGr} {p:List (TCT cPt)} (h:(Et g p).2.1=0):StaOk g (Et g p).1∧Df (Et g p).1=true∧(∀ j:Nat,D1 (osT (Et g p).1) j=false)∧p.length=(A5 g).length:=by
 unfold Et at h ⊢
 cases h1:groE g != 0 with
 | true=>rw [h1] at h;exact absurd h (bne_iff_ne.1 h1)
 | false =>
  have hg:=bne_eq_false_iff_eq.1 h1
  obtain ⟨hl,⟨n1,n8⟩,hb⟩:=Ah7 hg
  rw [h1] at h
  simp only [cond_false] at h ⊢
  cases h2:W6 p.length (A5 g).length with
  | true=>rw [h2] at h;cases h
  | false =>
   rw [h2] at h
   simp only [cond_false] at h ⊢
   have hn:p.length=(A5 g).length:=by
    unfold W6 at h2
    have:=bne_eq_false_iff_eq.1 h2
    omega
   cases h3:An (f_li g.1 p) 0 p.length [] with
   | inr e=>rw [h3] at h;cases h
   | inl ms =>
    have iv:=Aei h3
    have il:=iv.ln
    have og:∀ j:Nat,D1 (List.replicate p.length false) j=false:=fun j=>by
     unfold D1
     rw [Cf,List.getD_eq_getElem?_getD,List.getElem?_replicate]
     by_cases e:j<p.length
     ·rw [if_pos e];rfl
     ·rw [if_neg e];rfl
    have q:RQ (A5 g) (A5 g).length ms (List.replicate p.length false):=⟨il.trans hn,by rw [List.length_replicate,hn],fun j hj=>by
     obtain ⟨a,b⟩:=iv.g j (by omega)
     rw [a]
     refine Awj ?_ (B7z (p:=Amk (Al p j (Ak cPt))) hl b)
     exact List.all_eq_true.1 hb _ (Ck hj _),fun j _ h=>by rw [og j] at h;cases h⟩
    have ol:OL g.1 (A5 g).length ms (List.replicate p.length false):=fun j hj _=>by
     obtain ⟨a,b⟩:=iv.g j (by omega)
     rw [a]
     exact b
    refine ⟨Wt hg n1 n8 q ol ?_,?_,og,hn⟩
    ·show (decide ((0:Int)<0)||(decide ((0:Int)≥((A5 g).length:Int))||(decide ((0:Int)<0)||(decide ((0:Int)>8)||(decide ((0:Int)<0)||decide ((0:Int)>4000))))))=false
     rw [decide_eq_false (show ¬ (0:Int)≥((A5 g).length:Int) by omega)]
     rfl
    ·show (ms:Ar).all Ey=true
     rw [List.all_eq_true]
     intro m hm
     obtain ⟨j,hj,e⟩:=List.getElem_of_mem hm
     have:=(iv.g j (by omega)).1
     unfold A9 at this
     rw [Cf,List.getD_eq_getElem?_getD,List.getElem?_eq_getElem hj] at this
     rw [← e]
     rw [show ms[j]=A02 (Al p j (Ak cPt)) from this]
     rfl
end St
end V
end Go.Proofs.YtlangijnealfjaaGreat
namespace Go.Proofs.YtlangijnealfjaaGreat
open Go.RowKit
namespace V
namespace St
def A6p (o:List Bool) (x:TCT cKn):List Bool:=B9 (B9 o (Int.toNat x.2.2.2.1) true) (Int.toNat x.2.2.2.2.1) true
def Awk (o:List Bool) (ks:Kns):List Bool:=ks.foldl A6p o
theorem A6q {o:List Bool} {x:TCT cKn}:(A6p o x).length=o.length:=by unfold A6p;rw [C2,C2]
theorem A6r:∀ (ks:Kns) (o:List Bool),(Awk o ks).length=o.length
 | [],_=>rfl
 | x::ks,o=>(A6r ks (A6p o x)).trans A6q
theorem A6s {l:List Bool} {i j:Nat}:i<l.length→D1 (B9 l i true) j=(D1 l j||decide (j=i)):=fun hi=>by
 by_cases e:j=i
 ·rw [Ae3 hi e,decide_eq_true e,Bool.or_true]
 ·rw [A34 hi e,decide_eq_false e,Bool.or_false]
theorem Azm {a:Int} {k:Nat} (h:0≤a):(a==(k:Int))=decide (k=Int.toNat a):=by
 by_cases e:k=Int.toNat a
 ·rw [decide_eq_true e];exact beq_iff_eq.2 (by omega)
 ·rw [decide_eq_false e];exact beq_eq_false_iff_ne.2 (by omega)
structure KN (n:Nat) (x:TCT cKn):Prop where
 z:x.2.2.1=0
 b:0≤x.2.2.2.1∧x.2.2.2.1<(n:Int)
 o:0≤x.2.2.2.2.1∧x.2.2.2.2.1<(n:Int)
theorem Awl {o:List Bool} {x:TCT cKn} {n k:Nat} (hl:o.length=n) (h:KN n x):D1 (A6p o x) k=(D1 o k||tcK k x):=by
 unfold A6p
 have h1:Int.toNat x.2.2.2.1<o.length:=by rw [hl];exact Od h.b.1 h.b.2
 have h2:Int.toNat x.2.2.2.2.1<(B9 o (Int.toNat x.2.2.2.1) true).length:=by rw [C2,hl];exact Od h.o.1 h.o.2
 rw [A6s h2,A6s h1]
 unfold tcK
 rw [Azm h.b.1,h.z,Azm h.o.1,show ((0:Int)==0)=true from rfl,Bool.true_and,Bool.or_assoc]
theorem Aej {n k:Nat}:∀ (ks:Kns) (o:List Bool),o.length=n→(∀ x ∈ ks,KN n x)→D1 (Awk o ks) k=(D1 o k||tcB k ks)
 | [],o,_,_=>by
  show D1 o k=(D1 o k||false)
  rw [Bool.or_false]
 | x::ks,o,hl,h=>by
  have ih:=Aej (n:=n) (k:=k) ks (A6p o x) (A6q.trans hl) (fun y hy=>h y (List.mem_cons_of_mem _ hy))
  show D1 (Awk (A6p o x) ks) k=(D1 o k||(tcK k x||tcB k ks))
  rw [ih,Awl hl (h x (List.mem_cons_self ..)),Bool.or_assoc]
theorem B3c {n:Nat} {ks:Kns} (h:KR n ks) (hn:ks.any nbK=false):∀ x ∈ ks,KN n x:=fun x hx=>by
 obtain ⟨i,hi,e⟩:=List.getElem_of_mem hx
 have g:Lc ks i=x:=by
  unfold Lc
  rw [Cf,List.getD_eq_getElem?_getD,List.getElem?_eq_getElem hi,← e];rfl
 have z:x.2.2.1=0:=by
  have:=List.any_eq_false.1 hn x hx
  unfold nbK at this
  exact bne_eq_false_iff_eq.1 (by simpa using this)
 have a:=h i hi (by rw [g];exact z)
 rw [g] at a
 exact ⟨z,a.1,a.2⟩
structure CI (g:TCT cGr) (s0 t0:TCT cSt) (i:Nat) (t:TCT cSt) (ks:Kns) (hit:List Bool):Prop where
 a:StaOk g t
 tk:t.2.2.2.2.1=(i:Int)
 kr:KR (A5 g).length ks
 kl:ks.length≤129152
 hl:hit.length=(A5 g).length
 d:ks.any nbK=false→∀ h:TCT cPt→Int,PartH h→smP h (msT t)=smP h (msT t0)
 e:∀ k:Nat,D1 hit k=false→tcB k ks=false→A9 (msT t) k=A9 (msT s0) k∧Ey (A9 (msT s0) k)=true
theorem CI.tick {g:TCT cGr} {s0 t0 t:TCT cSt} {i:Nat} {ks:Kns} {hit:List Bool} {r:S2} (c:CI g s0 t0 i t ks hit) (hl:Awf g.1) (hi:i≤100) (hk:ks.any nbK=false) (hf:tkF (ctS g t) (msT t,osT t,[])=.inl r):CI g s0 t0 (i+1) (nxS t r) r.2.2 (Awk hit ks):=by
 have con:=fun h p=>Ah6 (h:=h) p hl c.a hf
 refine ⟨A6g c.a hf,?_,Awi c.a hf,(con _ .x).2,(A6r _ _).trans c.hl,fun hn h p=>?_,fun k hh hk2=>?_⟩
 ·show W64 (t.2.2.2.2.1+1)=_
  rw [c.tk,B5 (n:=(i:Int)+1) (by omega) (by omega)];rfl
 ·rcases (con h p).1 with a | a
  ·exact a.trans (c.d hk h p)
  ·rw [hn] at a;cases a
 ·rw [Aej ks hit c.hl (B3c c.kr hk),Bool.or_eq_false_iff] at hh
  obtain ⟨e1,e2⟩:=c.e k hh.1 hh.2
  have R:REL k (msT t,osT t,[]) r:=Avy (k:=ctS g t) c.a.n8 hf
  have e3:=R.r2 (by show Ey (A9 (msT t) k)=true;rw [e1];exact e2) hk2
  exact ⟨e3.1.trans e1,e2⟩
theorem CI.zero {g:TCT cGr} {s:TCT cSt} {w:TCT cBw} {hit:List Bool} (h:(skV g s w).2.2.1=0) (hl:hit.length=(A5 g).length) (hw:D1 hit (Int.toNat w.1)=true):CI g s (skV g s w).1 0 (skV g s w).1 (skV g s w).2.1 hit:=by
 obtain ⟨k,_⟩:=Aoq h
 obtain ⟨a,b,c,d⟩:=B3a h
 refine ⟨(B36 h).1,b,a,by omega,hl,fun _ _ _=>rfl,fun i hh hk=>?_⟩
 have hne:i≠Int.toNat w.1:=fun e=>by rw [e,hw] at hh;cases hh
 exact ⟨d i hne hk,V8 k.r i⟩
end St
end V
end Go.Proofs.YtlangijnealfjaaGreat
