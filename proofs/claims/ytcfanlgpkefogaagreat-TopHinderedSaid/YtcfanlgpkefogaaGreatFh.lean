import Derived.Test.YtcfanlgpkefogaaGreatFb
import Derived.Test.YtcfanlgpkefogaaGreatEr
import Derived.Test.YtcfanlgpkefogaaGreatDw
namespace Go.Proofs.YtcfanlgpkefogaaGreat
open Go.RowKit
namespace V
namespace St
end St
end V
end Go.Proofs.YtcfanlgpkefogaaGreat
namespace Go.Proofs.YtcfanlgpkefogaaGreat
open Go.RowKit
namespace V
namespace St
structure GK (n:Nat) (o:List Bool) (x:TCT cKn):Prop where
 b:0≤x.2.2.2.1∧x.2.2.2.1<(n:Int)
 k:0≤x.2.2.1∧x.2.2.1≤2
 ot:x.2.2.1=0→x.2.2.2.1<x.2.2.2.2.1∧x.2.2.2.2.1<(n:Int)∧Bbs o (Int.toNat x.2.2.2.2.1)=false
 nb:Bbs o (Int.toNat x.2.2.2.1)=false
 st:1≤x.2.1∧x.2.1≤16
def nxO (o:List Bool) (x:TCT cKn):List Bool:=bif x.2.2.1==2 then Bba o (Int.toNat x.2.2.2.1) true else o
def rpO (o:List Bool) (ks:Kns):List Bool:=ks.foldl nxO o
def Dbs (x y:TCT cKn):Prop:=x.1<y.1∨(x.1=y.1∧x.2.1≤y.2.1)
def Bjn (ks:Kns) (i:Nat):TCT cKn:=Bam ks i (Baj cKn)
structure KV (n:Nat) (o0:List Bool) (T0 T st:Int) (ks:Kns) (o:List Bool):Prop where
 e:rpO o0 ks=o
 g:∀ i,i<ks.length→GK n (rpO o0 (ks.take i)) (Bjn ks i)
 d:∀ i,i+1<ks.length→Dbs (Bjn ks i) (Bjn ks (i+1))
 l:∀ i,i<ks.length→T0≤(Bjn ks i).1∧((Bjn ks i).1<T∨((Bjn ks i).1=T∧(Bjn ks i).2.1≤st))
theorem Bp7 {ks:Kns} {x:TCT cKn} {i:Nat} (h:i<ks.length):Bjn (ks++[x]) i=Bjn ks i:=by
 unfold Bjn
 rw [Bej (by omega),if_neg (by omega)]
theorem Bp8 {ks:Kns} {x:TCT cKn}:Bjn (ks++[x]) ks.length=x:=by
 unfold Bjn
 rw [Bej (by omega),if_pos rfl]
theorem KV.snoc {n:Nat} {o0 o:List Bool} {T0 T st:Int} {ks:Kns} {x:TCT cKn} (h:KV n o0 T0 T st ks o) (hg:GK n o x) (h1:x.1=T) (h2:x.2.1=st) (h0:T0≤T):KV n o0 T0 T st (ks++[x]) (nxO o x):=by
 refine ⟨?_,fun i hi=>?_,fun i hi=>?_,fun i hi=>?_⟩
 ·unfold rpO
  rw [List.foldl_append]
  show nxO (rpO o0 ks) x=_
  rw [h.e]
 ·rw [List.length_append,List.length_singleton] at hi
  by_cases e:i=ks.length
  ·subst e
   rw [List.take_append_of_le_length (Nat.le_refl _),List.take_length,h.e,Bp8];exact hg
  ·rw [List.take_append_of_le_length (by omega),Bp7 (by omega)];exact h.g i (by omega)
 ·rw [List.length_append,List.length_singleton] at hi
  rw [Bp7 (by omega)]
  by_cases e:i+1=ks.length
  ·rw [e,Bp8]
   have:=(h.l i (by omega)).2
   unfold Dbs
   rw [h1,h2]
   exact this
  ·rw [Bp7 (by omega)];exact h.d i (by omega)
 ·rw [List.length_append,List.length_singleton] at hi
  by_cases e:i=ks.length
  ·subst e
   rw [Bp8,h1,h2];exact ⟨h0,.inr ⟨rfl,Int.le_refl _⟩⟩
  ·rw [Bp7 (by omega)];exact h.l i (by omega)
theorem Bnd {a:Int} {n:Nat} (h:0≤a) (k:a<(n:Int)):Int.toNat a<n:=by omega
theorem Cy6 {a b:Int} (h:0≤a) (k:a<b):Int.toNat a<Int.toNat b:=by omega
theorem Cy7 {a b T st T' st':Int} (h:a<T∨(a=T∧b≤st)) (k:T<T'∨(T=T'∧st≤st')):a<T'∨(a=T'∧b≤st'):=by omega
theorem KV.adv {n:Nat} {o0 o:List Bool} {T0 T st T' st':Int} {ks:Kns} (h:KV n o0 T0 T st ks o) (k:T<T'∨(T=T'∧st≤st')):KV n o0 T0 T' st' ks o :=
 ⟨h.e,h.g,h.d,fun i hi=>⟨(h.l i hi).1,Cy7 (h.l i hi).2 k⟩⟩
theorem D6f {l:TCT Ban} {n j:Nat} {o0:List Bool} {T0 T st:Int} {s s':S2} (h0:T0≤T) (h1:1≤st∧st≤16) (hj:j<n) (h:lvE l T st j s=.inl s') (k:KV n o0 T0 T st s.2.2 s.2.1):KV n o0 T0 T st s'.2.2 s'.2.1:=by
 unfold lvE at h
 cases e1:Bam s.2.1 j (Baj .b) with
 | true=>rw [e1] at h;cases h;exact k
 | false =>
  rw [e1] at h
  cases e2:onB l (Bag s.1 j).1 with
  | true=>rw [e2] at h;cases h;exact k
  | false =>
   rw [e2] at h
   cases h
   have hb:0≤(j:Int)∧(j:Int)<(n:Int):=by omega
   have g:GK n s.2.1 (kn T st 2 (j:Int) 0):=⟨hb,by show (0:Int)≤2∧(2:Int)≤2;omega,fun e=>absurd (show (2:Int)=0 from e) (by decide),e1,h1⟩
   exact k.snoc g rfl rfl h0
theorem D6g {bl:List (TCT No)} {l:TCT Ban} {n:Nat} {o0:List Bool} {T0 T st:Int} {s s':S2} (h0:T0≤T) (h1:1≤st∧st≤16) (h:mvF bl l T st n s=.inl s') (k:KV n o0 T0 T st s.2.2 s.2.1):KV n o0 T0 T st s'.2.2 s'.2.1:=by
 unfold mvF at h
 cases e1:Bap (stE bl s.2.1) 0 n s.1 with
 | inr e=>rw [e1] at h;cases h
 | inl ms =>
  rw [e1] at h
  have h2:Bap (lvE l T st) 0 n (ms,s.2.1,s.2.2)=.inl s':=h
  exact Bay (n:=n) (Inv:=fun _ (x:S2)=>KV n o0 T0 T st x.2.2 x.2.1) (fun j x x' hj hx h3=>D6f h0 h1 hj h3 hx) n 0 (ms,s.2.1,s.2.2) s' (by omega) k h2
structure InvW (i:Nat) (s:GA):Prop where
 a:∀ k:Nat,k<s.1.length→Bam s.1 k (Baj cI)<(i:Int)
 s:∀ k k':Nat,k<k'→k'<s.1.length→Bam s.1 k (Baj cI)<Bam s.1 k' (Baj cI)
theorem Dbt {bl:List (TCT No)} {ms:Bal} {os:List Bool} {w fl:Int} (i:Nat) (s s':GA) (h:InvW i s) (h2:gaE bl ms os w fl i s=.inl s'):InvW (i+1) s':=by
 unfold gaE at h2
 have up:∀ a:Int,a<(i:Int)→a<((i+1:Nat):Int):=fun a h=>by omega
 cases hc:!Bam os i (Baj .b)&&!Bdb w fl i with
 | false=>rw [hc] at h2;cases h2;exact ⟨fun k hk=>up _ (h.a k hk),h.s⟩
 | true =>
  rw [hc] at h2
  cases h2
  have hl:(s.1++[(i:Int)]).length=s.1.length+1:=by rw [List.length_append,List.length_singleton]
  refine ⟨fun k hk=>?_,fun k k' hkk hk=>?_⟩
  ·have hk2:k<s.1.length+1:=hl ▸ hk
   show Bam (s.1++[(i:Int)]) k (Baj cI)<_
   rw [Bej hk2]
   by_cases e:k=s.1.length
   ·rw [if_pos e];show (i:Int)<((i+1:Nat):Int);omega
   ·rw [if_neg e];exact up _ (h.a k (by omega))
  ·have hk2:k'<s.1.length+1:=hl ▸ hk
   show Bam (s.1++[(i:Int)]) k (Baj cI)<Bam (s.1++[(i:Int)]) k' (Baj cI)
   rw [Bej (by omega),Bej hk2,if_neg (by omega)]
   by_cases e:k'=s.1.length
   ·rw [if_pos e];exact h.a k (by omega)
   ·rw [if_neg e];exact h.s k k' hkk (by omega)
theorem Cq7 {bl:List (TCT No)} {ms:Bal} {os:List Bool} {w fl:Int} {n:Nat}:InvW n (gaV bl w fl n ms os) :=
 Bay (n:=n) (Inv:=InvW) (fun i s s' _ h h2=>Dbt (bl:=bl) (ms:=ms) (os:=os) (w:=w) (fl:=fl) i s s' h h2) n 0 ([],[],[]) _ (by omega) ⟨fun k hk=>absurd hk (Nat.not_lt_zero k),fun _ k' _ hk=>absurd hk (Nat.not_lt_zero k')⟩ (Bgh (Bap (gaE bl ms os w fl) 0 n ([],[],[])))
theorem D6h {bl:List (TCT No)} {c:TCT Bbv} {n:Nat} {o0:List Bool} {T0 T st w fl:Int} {s:S2} {r:Bal×Kns} (hn8:n≤8) (h0:T0≤T) (h1:1≤st∧st≤16) (h:seF bl c T st w fl n s=.inl r) (k:KV n o0 T0 T st s.2.2 s.2.1):KV n o0 T0 T st r.2 s.2.1:=by
 unfold seF at h
 cases he:(seS bl c w fl n s).2.2.1 != 0 with
 | true=>rw [he] at h;cases h
 | false =>
  rw [he] at h
  cases h
  have e0:=bne_eq_false_iff_eq.1 he
  have hG:InvH s.1 s.2.1 n n (seG bl w fl n s):=Bv1
  have hW:InvW n (seG bl w fl n s):=Cq7
  have hS:=Bqr hn8 e0
  refine Bay (n:=(seS bl c w fl n s).2.1.length) (Inv:=fun _ (x:Kns)=>KV n o0 T0 T st x s.2.1) (fun j x x' hj hx h3=>?_) (seS bl c w fl n s).2.1.length 0 s.2.2 _ (by omega) k (Bgh (Bap (kpE (seG bl w fl n s).1 (seS bl c w fl n s).2.1 T st) 0 (seS bl c w fl n s).2.1.length s.2.2))
  cases h3
  have pr:Bqq (seG bl w fl n s).1.length (Bim (seS bl c w fl n s).2.1 j):=hS.2.2 _ (Bcl hj _)
  have l1:Int.toNat (Bim (seS bl c w fl n s).2.1 j).1<(seG bl w fl n s).1.length:=Bnd pr.1 (Int.lt_trans pr.2.1 pr.2.2)
  have l2:Int.toNat (Bim (seS bl c w fl n s).2.1 j).2.1<(seG bl w fl n s).1.length:=Bnd (Int.le_of_lt (Int.lt_of_le_of_lt pr.1 pr.2.1)) pr.2.2
  have l3:Int.toNat (Bim (seS bl c w fl n s).2.1 j).1<Int.toNat (Bim (seS bl c w fl n s).2.1 j).2.1:=Cy6 pr.1 pr.2.1
  have g:GK n s.2.1 (knP T st (seG bl w fl n s).1 (Bim (seS bl c w fl n s).2.1 j)) :=
   ⟨hG.g.r _ (Bcl l1 _),by show (0:Int)≤0∧(0:Int)≤2;omega,fun _=>⟨hW.s _ _ l3 l2,(hG.g.r _ (Bcl l2 _)).2,(hG.h _ l2).2⟩,(hG.h _ l1).2,h1⟩
  exact hx.snoc g rfl rfl h0
theorem D6i {b:TCT No} {c:TCT Bbv} {ps:Dss} {os o0:List Bool} {n j k:Nat} {w fl T0 T st:Int} {s:MK} (h0:T0≤T) (h1:1≤st∧st≤16) (hj:j<n) (q:KV n o0 T0 T st s.2 os):(∀ s',bpE b c ps os w fl T st j k s=.inl s'→KV n o0 T0 T st s'.2 os)∧(∀ s',bpE b c ps os w fl T st j k s=.inr (.inl s')→s'=s):=by
 unfold bpE
 cases e1:!Bbu s.1 os j||Bdb w fl j with
 | true=>exact ⟨(fun s' h=>by cases h),(fun s' h=>by cases h;rfl)⟩
 | false =>
  rw [Bool.or_eq_false_iff] at e1
  simp only [cond_false]
  cases e2:(bmV b (Bag s.1 j) (Bd3 ps k) c).2.1==0 with
  | true =>
   refine ⟨(fun s' h=>?_),(fun s' h=>by cases h)⟩
   cases h
   have hb:0≤(j:Int)∧(j:Int)<(n:Int):=by omega
   have g:GK n os (kn T st 1 (j:Int) (k:Int)):=⟨hb,by show (0:Int)≤1∧(1:Int)≤2;omega,fun e=>absurd (show (1:Int)=0 from e) (by decide),Bp6 e1.1,h1⟩
   exact q.snoc g rfl rfl h0
  | false =>
   simp only [cond_false]
   cases e3:(bmV b (Bag s.1 j) (Bd3 ps k) c).2.1==4 with
   | true=>exact ⟨(fun s' h=>by cases h),(fun s' h=>by cases h)⟩
   | false=>exact ⟨(fun s' h=>by cases h;exact q),(fun s' h=>by cases h)⟩
theorem Cq8 {b:TCT No} {c:TCT Bbv} {ps:Dss} {os o0:List Bool} {n j:Nat} {w fl T0 T st:Int} (h0:T0≤T) (h1:1≤st∧st≤16) (hj:j<n):∀ (m k:Nat) (s s':MK),KV n o0 T0 T st s.2 os→Bsr (Bap (bpE b c ps os w fl T st j) k m s)=.inl s'→KV n o0 T0 T st s'.2 os
 | 0,k,s,s',q,h=>by cases h;exact q
 | m+1,k,s,s',q,h=>by
  unfold Bap at h
  have a:=D6i (b:=b) (c:=c) (ps:=ps) (w:=w) (fl:=fl) (k:=k) h0 h1 hj q
  cases hf:bpE b c ps os w fl T st j k s with
  | inl t1=>rw [hf] at h;exact Cq8 h0 h1 hj m (k+1) t1 s' (a.1 t1 hf) h
  | inr y =>
   rw [hf] at h
   cases y with
   | inl t1 =>
    have e:=a.2 t1 hf
    subst e
    cases h
    exact q
   | inr e=>cases h
theorem D6j {bl:List (TCT No)} {c:TCT Bbv} {ps:Dss} {o0:List Bool} {n:Nat} {w fl T0 T st:Int} {s:S2} {s':MK} (h0:T0≤T) (h1:1≤st∧st≤16) (h:buF bl c ps T st w fl n s=.inl s') (k:KV n o0 T0 T st s.2.2 s.2.1):KV n o0 T0 T st s'.2 s.2.1:=by
 unfold buF at h
 exact Bay (n:=n) (Inv:=fun _ (x:MK)=>KV n o0 T0 T st x.2 s.2.1) (fun j x x' hj hx h3=>Cq8 h0 h1 hj ps.length 0 x x' hx h3) n 0 (s.1,s.2.2) s' (by omega) k h
theorem D6k {k:CT} {o0:List Bool} {T0:Int} {i:Nat} {s s':S2} (hn8:k.bl.length≤8) (hi:i<16) (h0:T0≤k.t) (h:tkE k i s=.inl s') (q:KV k.bl.length o0 T0 k.t (i:Int) s.2.2 s.2.1):KV k.bl.length o0 T0 k.t ((i+1:Nat):Int) s'.2.2 s'.2.1:=by
 have hst:1≤((i+1:Nat):Int)∧((i+1:Nat):Int)≤16:=by omega
 have q1:KV k.bl.length o0 T0 k.t ((i+1:Nat):Int) s.2.2 s.2.1:=q.adv (.inr ⟨rfl,by omega⟩)
 unfold tkE at h
 cases h1:mvF k.bl k.l k.t ((i+1:Nat):Int) k.bl.length s with
 | inr e=>rw [h1] at h;cases h
 | inl s1 =>
  rw [h1] at h
  simp only at h
  have a:=D6g h0 hst h1 q1
  cases h2:seF k.bl k.c k.t ((i+1:Nat):Int) k.w k.fl k.bl.length s1 with
  | inr e=>rw [h2] at h;cases h
  | inl s2 =>
   rw [h2] at h
   simp only at h
   have b:=D6h hn8 h0 hst h2 a
   cases h3:buF k.bl k.c k.ps k.t ((i+1:Nat):Int) k.w k.fl k.bl.length (s2.1,s1.2.1,s2.2) with
   | inr e=>rw [h3] at h;cases h
   | inl s3 =>
    rw [h3] at h
    cases h
    exact D6j (s:=(s2.1,s1.2.1,s2.2)) h0 hst h3 b
theorem D6l {k:CT} {o0:List Bool} {T0:Int} {s s':S2} (hn8:k.bl.length≤8) (h0:T0≤k.t) (h:tkF k s=.inl s') (q:KV k.bl.length o0 T0 k.t 0 s.2.2 s.2.1):KV k.bl.length o0 T0 (k.t+1) 0 s'.2.2 s'.2.1:=by
 unfold tkF at h
 cases e0:k.t==4000 with
 | true=>rw [e0] at h;cases h
 | false =>
  rw [e0] at h
  simp only [cond_false] at h
  cases h1:Bap (slE k.l s.2.1 k.w k.fl) 0 k.bl.length s.1 with
  | inr e=>rw [h1] at h;cases h
  | inl ms =>
   rw [h1] at h
   have h2:Bap (tkE k) 0 16 (ms,s.2.1,s.2.2)=.inl s':=h
   have a:KV k.bl.length o0 T0 k.t ((16:Nat):Int) s'.2.2 s'.2.1:=Bay (n:=16) (Inv:=fun i (x:S2)=>KV k.bl.length o0 T0 k.t (i:Int) x.2.2 x.2.1) (fun i x x' hi hx h3=>D6k hn8 hi h0 h3 hx) 16 0 (ms,s.2.1,s.2.2) s' (by omega) q h2
   exact a.adv (.inl (by omega))
end St
end V
end Go.Proofs.YtcfanlgpkefogaaGreat
