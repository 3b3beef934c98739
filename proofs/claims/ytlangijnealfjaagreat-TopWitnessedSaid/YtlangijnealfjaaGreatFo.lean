import Derived.Test.YtlangijnealfjaaGreatFb
import Derived.Test.YtlangijnealfjaaGreatDo
import Derived.Test.YtlangijnealfjaaGreatDp
namespace Go.Proofs.YtlangijnealfjaaGreat
open Go.RowKit
namespace V
namespace St
end St
end V
end Go.Proofs.YtlangijnealfjaaGreat
namespace Go.Proofs.YtlangijnealfjaaGreat
open Go.RowKit
namespace V
namespace St
structure GK (n:Nat) (o:List Bool) (x:TCT cKn):Prop where
 b:0≤x.2.2.2.1∧x.2.2.2.1<(n:Int)
 k:0≤x.2.2.1∧x.2.2.1≤2
 ot:x.2.2.1=0→x.2.2.2.1<x.2.2.2.2.1∧x.2.2.2.2.1<(n:Int)∧Di o (Int.toNat x.2.2.2.2.1)=false
 nb:Di o (Int.toNat x.2.2.2.1)=false
 st:1≤x.2.1∧x.2.1≤16
def nxO (o:List Bool) (x:TCT cKn):List Bool:=bif x.2.2.1==2 then Bf o (Int.toNat x.2.2.2.1) true else o
def rpO (o:List Bool) (ks:Kns):List Bool:=ks.foldl nxO o
def Beq (x y:TCT cKn):Prop:=x.1<y.1∨(x.1=y.1∧x.2.1≤y.2.1)
def Lc (ks:Kns) (i:Nat):TCT cKn:=As ks i (Aq cKn)
structure KV (n:Nat) (o0:List Bool) (T0 T st:Int) (ks:Kns) (o:List Bool):Prop where
 e:rpO o0 ks=o
 g:∀ i,i<ks.length→GK n (rpO o0 (ks.take i)) (Lc ks i)
 d:∀ i,i+1<ks.length→Beq (Lc ks i) (Lc ks (i+1))
 l:∀ i,i<ks.length→T0≤(Lc ks i).1∧((Lc ks i).1<T∨((Lc ks i).1=T∧(Lc ks i).2.1≤st))
theorem S3 {ks:Kns} {x:TCT cKn} {i:Nat} (h:i<ks.length):Lc (ks++[x]) i=Lc ks i:=by
 unfold Lc
 rw [Gl (by omega),if_neg (by omega)]
theorem S4 {ks:Kns} {x:TCT cKn}:Lc (ks++[x]) ks.length=x:=by
 unfold Lc
 rw [Gl (by omega),if_pos rfl]
theorem KV.snoc {n:Nat} {o0 o:List Bool} {T0 T st:Int} {ks:Kns} {x:TCT cKn} (h:KV n o0 T0 T st ks o) (hg:GK n o x) (h1:x.1=T) (h2:x.2.1=st) (h0:T0≤T):KV n o0 T0 T st (ks++[x]) (nxO o x):=by
 refine ⟨?_,fun i hi=>?_,fun i hi=>?_,fun i hi=>?_⟩
 ·unfold rpO
  rw [List.foldl_append]
  show nxO (rpO o0 ks) x=_
  rw [h.e]
 ·rw [List.length_append,List.length_singleton] at hi
  by_cases e:i=ks.length
  ·subst e
   rw [List.take_append_of_le_length (Nat.le_refl _),List.take_length,h.e,S4];exact hg
  ·rw [List.take_append_of_le_length (by omega),S3 (by omega)];exact h.g i (by omega)
 ·rw [List.length_append,List.length_singleton] at hi
  rw [S3 (by omega)]
  by_cases e:i+1=ks.length
  ·rw [e,S4]
   have:=(h.l i (by omega)).2
   unfold Beq
   rw [h1,h2]
   exact this
  ·rw [S3 (by omega)];exact h.d i (by omega)
 ·rw [List.length_append,List.length_singleton] at hi
  by_cases e:i=ks.length
  ·subst e
   rw [S4,h1,h2];exact ⟨h0,.inr ⟨rfl,Int.le_refl _⟩⟩
  ·rw [S3 (by omega)];exact h.l i (by omega)
theorem Q1 {a:Int} {n:Nat} (h:0≤a) (k:a<(n:Int)):Int.toNat a<n:=by omega
theorem B0p {a b:Int} (h:0≤a) (k:a<b):Int.toNat a<Int.toNat b:=by omega
theorem B0q {a b T st T' st':Int} (h:a<T∨(a=T∧b≤st)) (k:T<T'∨(T=T'∧st≤st')):a<T'∨(a=T'∧b≤st'):=by omega
theorem KV.adv {n:Nat} {o0 o:List Bool} {T0 T st T' st':Int} {ks:Kns} (h:KV n o0 T0 T st ks o) (k:T<T'∨(T=T'∧st≤st')):KV n o0 T0 T' st' ks o :=
 ⟨h.e,h.g,h.d,fun i hi=>⟨(h.l i hi).1,B0q (h.l i hi).2 k⟩⟩
theorem B99 {l:TCT Am} {n j:Nat} {o0:List Bool} {T0 T st:Int} {s s':S2} (h0:T0≤T) (h1:1≤st∧st≤16) (hj:j<n) (h:lvE l T st j s=.inl s') (k:KV n o0 T0 T st s.2.2 s.2.1):KV n o0 T0 T st s'.2.2 s'.2.1:=by
 unfold lvE at h
 cases e1:As s.2.1 j (Aq .b) with
 | true=>rw [e1] at h;cases h;exact k
 | false =>
  rw [e1] at h
  cases e2:onB l (A9 s.1 j).1 with
  | true=>rw [e2] at h;cases h;exact k
  | false =>
   rw [e2] at h
   cases h
   have hb:0≤(j:Int)∧(j:Int)<(n:Int):=by omega
   have g:GK n s.2.1 (kn T st 2 (j:Int) 0):=⟨hb,by show (0:Int)≤2∧(2:Int)≤2;omega,fun e=>absurd (show (2:Int)=0 from e) (by decide),e1,h1⟩
   exact k.snoc g rfl rfl h0
theorem B9a {bl:List (TCT A3)} {l:TCT Am} {n:Nat} {o0:List Bool} {T0 T st:Int} {s s':S2} (h0:T0≤T) (h1:1≤st∧st≤16) (h:mvF bl l T st n s=.inl s') (k:KV n o0 T0 T st s.2.2 s.2.1):KV n o0 T0 T st s'.2.2 s'.2.1:=by
 unfold mvF at h
 cases e1:Ax (stE bl s.2.1) 0 n s.1 with
 | inr e=>rw [e1] at h;cases h
 | inl ms =>
  rw [e1] at h
  have h2:Ax (lvE l T st) 0 n (ms,s.2.1,s.2.2)=.inl s':=h
  exact B6 (n:=n) (Inv:=fun _ (x:S2)=>KV n o0 T0 T st x.2.2 x.2.1) (fun j x x' hj hx h3=>B99 h0 h1 hj h3 hx) n 0 (ms,s.2.1,s.2.2) s' (by omega) k h2
structure InvW (i:Nat) (s:GA):Prop where
 a:∀ k:Nat,k<s.1.length→As s.1 k (Aq cI)<(i:Int)
 s:∀ k k':Nat,k<k'→k'<s.1.length→As s.1 k (Aq cI)<As s.1 k' (Aq cI)
theorem Ber {bl:List (TCT A3)} {ms:Au} {os:List Bool} {w fl:Int} (i:Nat) (s s':GA) (h:InvW i s) (h2:gaE bl ms os w fl i s=.inl s'):InvW (i+1) s':=by
 unfold gaE at h2
 have up:∀ a:Int,a<(i:Int)→a<((i+1:Nat):Int):=fun a h=>by omega
 cases hc:!As os i (Aq .b)&&!Fi w fl i with
 | false=>rw [hc] at h2;cases h2;exact ⟨fun k hk=>up _ (h.a k hk),h.s⟩
 | true =>
  rw [hc] at h2
  cases h2
  have hl:(s.1++[(i:Int)]).length=s.1.length+1:=by rw [List.length_append,List.length_singleton]
  refine ⟨fun k hk=>?_,fun k k' hkk hk=>?_⟩
  ·have hk2:k<s.1.length+1:=hl ▸ hk
   show As (s.1++[(i:Int)]) k (Aq cI)<_
   rw [Gl hk2]
   by_cases e:k=s.1.length
   ·rw [if_pos e];show (i:Int)<((i+1:Nat):Int);omega
   ·rw [if_neg e];exact up _ (h.a k (by omega))
  ·have hk2:k'<s.1.length+1:=hl ▸ hk
   show As (s.1++[(i:Int)]) k (Aq cI)<As (s.1++[(i:Int)]) k' (Aq cI)
   rw [Gl (by omega),Gl hk2,if_neg (by omega)]
   by_cases e:k'=s.1.length
   ·rw [if_pos e];exact h.a k (by omega)
   ·rw [if_neg e];exact h.s k k' hkk (by omega)
theorem B59 {bl:List (TCT A3)} {ms:Au} {os:List Bool} {w fl:Int} {n:Nat}:InvW n (gaV bl w fl n ms os) :=
 B6 (n:=n) (Inv:=InvW) (fun i s s' _ h h2=>Ber (bl:=bl) (ms:=ms) (os:=os) (w:=w) (fl:=fl) i s s' h h2) n 0 ([],[],[]) _ (by omega) ⟨fun k hk=>absurd hk (Nat.not_lt_zero k),fun _ k' _ hk=>absurd hk (Nat.not_lt_zero k')⟩ (J7 (Ax (gaE bl ms os w fl) 0 n ([],[],[])))
theorem B9b {bl:List (TCT A3)} {c:TCT Cj} {n:Nat} {o0:List Bool} {T0 T st w fl:Int} {s:S2} {r:Au×Kns} (hn8:n≤8) (h0:T0≤T) (h1:1≤st∧st≤16) (h:seF bl c T st w fl n s=.inl r) (k:KV n o0 T0 T st s.2.2 s.2.1):KV n o0 T0 T st r.2 s.2.1:=by
 unfold seF at h
 cases he:(seS bl c w fl n s).2.2.1 != 0 with
 | true=>rw [he] at h;cases h
 | false =>
  rw [he] at h
  cases h
  have e0:=bne_eq_false_iff_eq.1 he
  have hG:InvH s.1 s.2.1 n n (seG bl w fl n s):=A2z
  have hW:InvW n (seG bl w fl n s):=B59
  have hS:=U7 hn8 e0
  refine B6 (n:=(seS bl c w fl n s).2.1.length) (Inv:=fun _ (x:Kns)=>KV n o0 T0 T st x s.2.1) (fun j x x' hj hx h3=>?_) (seS bl c w fl n s).2.1.length 0 s.2.2 _ (by omega) k (J7 (Ax (kpE (seG bl w fl n s).1 (seS bl c w fl n s).2.1 T st) 0 (seS bl c w fl n s).2.1.length s.2.2))
  cases h3
  have pr:U6 (seG bl w fl n s).1.length (Lz (seS bl c w fl n s).2.1 j):=hS.2.2 _ (Ex hj _)
  have l1:Int.toNat (Lz (seS bl c w fl n s).2.1 j).1<(seG bl w fl n s).1.length:=Q1 pr.1 (Int.lt_trans pr.2.1 pr.2.2)
  have l2:Int.toNat (Lz (seS bl c w fl n s).2.1 j).2.1<(seG bl w fl n s).1.length:=Q1 (Int.le_of_lt (Int.lt_of_le_of_lt pr.1 pr.2.1)) pr.2.2
  have l3:Int.toNat (Lz (seS bl c w fl n s).2.1 j).1<Int.toNat (Lz (seS bl c w fl n s).2.1 j).2.1:=B0p pr.1 pr.2.1
  have g:GK n s.2.1 (knP T st (seG bl w fl n s).1 (Lz (seS bl c w fl n s).2.1 j)) :=
   ⟨hG.g.r _ (Ex l1 _),by show (0:Int)≤0∧(0:Int)≤2;omega,fun _=>⟨hW.s _ _ l3 l2,(hG.g.r _ (Ex l2 _)).2,(hG.h _ l2).2⟩,(hG.h _ l1).2,h1⟩
  exact hx.snoc g rfl rfl h0
theorem B9c {b:TCT A3} {c:TCT Cj} {ps:Dss} {os o0:List Bool} {n j k:Nat} {w fl T0 T st:Int} {s:MK} (h0:T0≤T) (h1:1≤st∧st≤16) (hj:j<n) (q:KV n o0 T0 T st s.2 os):(∀ s',bpE b c ps os w fl T st j k s=.inl s'→KV n o0 T0 T st s'.2 os)∧(∀ s',bpE b c ps os w fl T st j k s=.inr (.inl s')→s'=s):=by
 unfold bpE
 cases e1:!Cf s.1 os j||Fi w fl j with
 | true=>exact ⟨(fun s' h=>by cases h),(fun s' h=>by cases h;rfl)⟩
 | false =>
  rw [Bool.or_eq_false_iff] at e1
  simp only [cond_false]
  cases e2:(bmV b (A9 s.1 j) (Fc ps k) c).2.1==0 with
  | true =>
   refine ⟨(fun s' h=>?_),(fun s' h=>by cases h)⟩
   cases h
   have hb:0≤(j:Int)∧(j:Int)<(n:Int):=by omega
   have g:GK n os (kn T st 1 (j:Int) (k:Int)):=⟨hb,by show (0:Int)≤1∧(1:Int)≤2;omega,fun e=>absurd (show (1:Int)=0 from e) (by decide),Rz e1.1,h1⟩
   exact q.snoc g rfl rfl h0
  | false =>
   simp only [cond_false]
   cases e3:(bmV b (A9 s.1 j) (Fc ps k) c).2.1==4 with
   | true=>exact ⟨(fun s' h=>by cases h),(fun s' h=>by cases h)⟩
   | false=>exact ⟨(fun s' h=>by cases h;exact q),(fun s' h=>by cases h)⟩
theorem Ase {b:TCT A3} {c:TCT Cj} {ps:Dss} {os o0:List Bool} {n j:Nat} {w fl T0 T st:Int} (h0:T0≤T) (h1:1≤st∧st≤16) (hj:j<n):∀ (m k:Nat) (s s':MK),KV n o0 T0 T st s.2 os→Yd (Ax (bpE b c ps os w fl T st j) k m s)=.inl s'→KV n o0 T0 T st s'.2 os
 | 0,k,s,s',q,h=>by cases h;exact q
 | m+1,k,s,s',q,h=>by
  unfold Ax at h
  have a:=B9c (b:=b) (c:=c) (ps:=ps) (w:=w) (fl:=fl) (k:=k) h0 h1 hj q
  cases hf:bpE b c ps os w fl T st j k s with
  | inl t1=>rw [hf] at h;exact Ase h0 h1 hj m (k+1) t1 s' (a.1 t1 hf) h
  | inr y =>
   rw [hf] at h
   cases y with
   | inl t1 =>
    have e:=a.2 t1 hf
    subst e
    cases h
    exact q
   | inr e=>cases h
theorem B9d {bl:List (TCT A3)} {c:TCT Cj} {ps:Dss} {o0:List Bool} {n:Nat} {w fl T0 T st:Int} {s:S2} {s':MK} (h0:T0≤T) (h1:1≤st∧st≤16) (h:buF bl c ps T st w fl n s=.inl s') (k:KV n o0 T0 T st s.2.2 s.2.1):KV n o0 T0 T st s'.2 s.2.1:=by
 unfold buF at h
 exact B6 (n:=n) (Inv:=fun _ (x:MK)=>KV n o0 T0 T st x.2 s.2.1) (fun j x x' hj hx h3=>Ase h0 h1 hj ps.length 0 x x' hx h3) n 0 (s.1,s.2.2) s' (by omega) k h
theorem B9e {k:CT} {o0:List Bool} {T0:Int} {i:Nat} {s s':S2} (hn8:k.bl.length≤8) (hi:i<16) (h0:T0≤k.t) (h:tkE k i s=.inl s') (q:KV k.bl.length o0 T0 k.t (i:Int) s.2.2 s.2.1):KV k.bl.length o0 T0 k.t ((i+1:Nat):Int) s'.2.2 s'.2.1:=by
 have hst:1≤((i+1:Nat):Int)∧((i+1:Nat):Int)≤16:=by omega
 have q1:KV k.bl.length o0 T0 k.t ((i+1:Nat):Int) s.2.2 s.2.1:=q.adv (.inr ⟨rfl,by omega⟩)
 unfold tkE at h
 cases h1:mvF k.bl k.l k.t ((i+1:Nat):Int) k.bl.length s with
 | inr e=>rw [h1] at h;cases h
 | inl s1 =>
  rw [h1] at h
  simp only at h
  have a:=B9a h0 hst h1 q1
  cases h2:seF k.bl k.c k.t ((i+1:Nat):Int) k.w k.fl k.bl.length s1 with
  | inr e=>rw [h2] at h;cases h
  | inl s2 =>
   rw [h2] at h
   simp only at h
   have b:=B9b hn8 h0 hst h2 a
   cases h3:buF k.bl k.c k.ps k.t ((i+1:Nat):Int) k.w k.fl k.bl.length (s2.1,s1.2.1,s2.2) with
   | inr e=>rw [h3] at h;cases h
   | inl s3 =>
    rw [h3] at h
    cases h
    exact B9d (s:=(s2.1,s1.2.1,s2.2)) h0 hst h3 b
theorem Asf {k:CT} {o0:List Bool} {T0:Int} {s s':S2} (hn8:k.bl.length≤8) (h0:T0≤k.t) (h:tkF k s=.inl s') (q:KV k.bl.length o0 T0 k.t 0 s.2.2 s.2.1):KV k.bl.length o0 T0 (k.t+1) 0 s'.2.2 s'.2.1:=by
 unfold tkF at h
 cases e0:k.t==4000 with
 | true=>rw [e0] at h;cases h
 | false =>
  rw [e0] at h
  simp only [cond_false] at h
  cases h1:Ax (slE k.l s.2.1 k.w k.fl) 0 k.bl.length s.1 with
  | inr e=>rw [h1] at h;cases h
  | inl ms =>
   rw [h1] at h
   have h2:Ax (tkE k) 0 16 (ms,s.2.1,s.2.2)=.inl s':=h
   have a:KV k.bl.length o0 T0 k.t ((16:Nat):Int) s'.2.2 s'.2.1:=B6 (n:=16) (Inv:=fun i (x:S2)=>KV k.bl.length o0 T0 k.t (i:Int) x.2.2 x.2.1) (fun i x x' hi hx h3=>B9e hn8 hi h0 h3 hx) 16 0 (ms,s.2.1,s.2.2) s' (by omega) q h2
   exact a.adv (.inl (by omega))
theorem Asg {g:TCT cGr} {o0:List Bool} {T0:Int}:∀ (n:Nat) (s:TCT cSt) (ks:Kns) (r:TCT cSt×Kns),StaOk g s→T0≤s.2.2.2.2.1→KV (A2 g).length o0 T0 s.2.2.2.2.1 0 ks (osT s)→rnS g n s ks=.inl r→KV (A2 g).length o0 T0 r.1.2.2.2.2.1 0 r.2 (osT r.1)
 | 0,s,ks,r,h,h0,q,e=>by
  rw [S0] at e
  cases hm:decide ((ks.length:Int)>4096) with
  | true=>rw [hm] at e;cases e
  | false=>rw [hm] at e;cases e;exact q
 | n+1,s,ks,r,h,h0,q,e=>by
  rw [S1] at e
  cases hm:decide ((ks.length:Int)>4096) with
  | true=>rw [hm] at e;cases e
  | false =>
   rw [hm] at e
   cases hs:D5 s with
   | true=>rw [hs] at e;cases e;exact q
   | false =>
    rw [hs] at e
    simp only [Bool.not_false,cond_true,cond_false] at e
    cases ht:tkF (ctS g s) (msT s,osT s,ks) with
    | inr x=>rw [ht] at e;cases e
    | inl x =>
     rw [ht] at e
     have hq:KV (A2 g).length o0 T0 (s.2.2.2.2.1+1) 0 x.2.2 x.2.1:=Asf (k:=ctS g s) (s:=(msT s,osT s,ks)) h.n8 h0 ht q
     have hn:(0≤s.2.2.1∧s.2.2.1<((A2 g).length:Int))∧(0≤s.2.2.2.1∧s.2.2.2.1≤8)∧(0≤s.2.2.2.2.1∧s.2.2.2.2.1≤4000):=Ade h.num
     have w1:∀ t:Int,0≤t∧t≤4000→W64 (t+1)=t+1:=fun t ht=>Be (by omega) (by omega)
     have et:(nxS s x).2.2.2.2.1=s.2.2.2.2.1+1:=w1 _ hn.2.2
     refine Asg n (nxS s x) x.2.2 r (O1 h ht) ?_ ?_ e
     ·rw [et];exact Int.le_of_lt (Int.lt_of_le_of_lt h0 (Int.lt_succ _))
     ·rw [et];exact hq
end St
end V
end Go.Proofs.YtlangijnealfjaaGreat
namespace Go.Proofs.YtlangijnealfjaaGreat
open Go.RowKit
namespace V
namespace St
def smP (h:TCT cPt→Int):Au→Int
 | []=>0
 | m::l=>h m.2.1+smP h l
def ptX (p:TCT cPt):Int:=p.1
def ptY (p:TCT cPt):Int:=p.2.1
theorem P9 {h:TCT cPt→Int}:∀ (l:Au) (i:Nat) (x:TCT B0),i<l.length→smP h (Bf l i x)=smP h l-h (A9 l i).2.1+h x.2.1
 | [],i,_,hi=>absurd hi (Nat.not_lt_zero i)
 | m::l,0,x,_=>by
  show h x.2.1+smP h l=h m.2.1+smP h l-h m.2.1+h x.2.1
  omega
 | m::l,i+1,x,hi=>by
  have ih:=P9 (h:=h) l i x (by simpa using hi)
  show h m.2.1+smP h (Bf l i x)=h m.2.1+smP h l-h (A9 l i).2.1+h x.2.1
  omega
theorem S5 {h:TCT cPt→Int} {l:Au} {i:Nat} {x:TCT B0} (e:x.2.1=(A9 l i).2.1):smP h (Bf l i x)=smP h l:=by
 by_cases hi:i<l.length
 ·rw [P9 l i x hi,e];omega
 ·rw [Bp,List.set_eq_of_length_le (Nat.le_of_not_lt hi)]
theorem Ash {n:Int}:∃ q:Int,W64 n=n-18446744073709551616*q:=by
 unfold W64 IntKind.wrap
 simp [IntKind.bits,IntKind.signed]
 split
 ·exact ⟨n / 18446744073709551616+1,by omega⟩
 ·exact ⟨n / 18446744073709551616,by omega⟩
theorem B5a {a b k:Int} (ha : -16777216≤a∧a≤16777216) (hb : -16777216≤b∧b≤16777216) (h1 : -16777216≤W64 (a-k)∧W64 (a-k)≤16777216) (h2 : -16777216≤W64 (b+k)∧W64 (b+k)≤16777216):W64 (a-k)+W64 (b+k)=a+b:=by
 obtain ⟨p,e1⟩:=Ash (n:=a-k)
 obtain ⟨q,e2⟩:=Ash (n:=b+k)
 omega
theorem B0r {a b:Bm} {k:Q3} (ha:B9 a.mx a.my=true) (hb:B9 b.mx b.my=true) (h:(Hm a b k).2.2.1=0):ptX (Hm a b k).1.2.1+ptX (Hm a b k).2.1.2.1=a.mx+b.mx∧ptY (Hm a b k).1.2.1+ptY (Hm a b k).2.1.2.1=a.my+b.my:=by
 unfold Hm at h ⊢
 cases h1:k.2.1 != 0 with
 | true=>rw [h1] at h;exact absurd h (bne_iff_ne.1 h1)
 | false =>
  rw [h1] at h
  simp only [cond_false] at h ⊢
  cases h2:B9 (W64 (a.mx-k.1.1)) (W64 (a.my-k.1.2.1)) with
  | false=>rw [h2] at h;cases h
  | true =>
   rw [h2] at h
   simp only [Bool.not_true,cond_false] at h ⊢
   cases h3:B9 (W64 (b.mx+k.1.1)) (W64 (b.my+k.1.2.1)) with
   | false=>rw [h3] at h;cases h
   | true =>
    have a1:=Ft ha
    have b1:=Ft hb
    have a2:=Ft h2
    have b2:=Ft h3
    exact ⟨B5a a1.1 b1.1 a2.1 b2.1,B5a a1.2 b1.2 a2.2 b2.2⟩
inductive PartH:(TCT cPt→Int)→Prop where
 | x:PartH ptX
 | y:PartH ptY
theorem PartH.bnc {h:TCT cPt→Int} (p:PartH h) {a b:TCT A3} {m m':TCT B0} {re dr:Int} (ha:smB m=true) (hb:smB m'=true) (e:(C4 (bm a m) (bm b m') re dr).2.2.1=0):h (C4 (bm a m) (bm b m') re dr).1.2.1+h (C4 (bm a m) (bm b m') re dr).2.1.2.1=h m.2.1+h m'.2.1:=by
 have r:=B0r (a:=bm a m) (b:=bm b m') (k:=Vp (bm a m) (bm b m') re dr) ha hb e
 cases p with
 | x=>exact r.1
 | y=>exact r.2
theorem Akg {h:TCT cPt→Int} (p:PartH h) {l:List (TCT A3)} {re dr:Int} {i k:Nat} {s s':SS} (hik:¬ k=i) (hi:i<s.1.length) (hk:k<s.1.length) (e:Fe l re dr i k s=some s') (hs:SM s.1):smP h s'.1=smP h s.1∧s'.1.length=s.1.length:=by
 unfold Fe at e
 cases h1:(C4 (bAt l s.1 i) (bAt l s.1 k) re dr).2.2.1==0 with
 | true =>
  rw [h1] at e
  simp only [cond_true,Option.some.injEq] at e
  subst e
  have b:=p.bnc (a:=As l i (Aq A3)) (b:=As l k (Aq A3)) (m:=A9 s.1 i) (m':=A9 s.1 k) (re:=re) (dr:=dr) (hs i) (hs k) (beq_iff_eq.1 h1)
  refine ⟨?_,by rw [C0,C0]⟩
  show smP h (Bf (Bf s.1 i _) k _)=smP h s.1
  rw [P9 _ k _ (by rw [C0];exact hk),P9 _ i _ hi,Fw hi hik]
  have b':h (C4 (bAt l s.1 i) (bAt l s.1 k) re dr).1.2.1+h (C4 (bAt l s.1 i) (bAt l s.1 k) re dr).2.1.2.1=h (A9 s.1 i).2.1+h (A9 s.1 k).2.1:=b
  omega
 | false =>
  rw [h1,cond_false] at e
  cases h2:(C4 (bAt l s.1 i) (bAt l s.1 k) re dr).2.2.1==4 with
  | true=>rw [h2] at e;simp at e
  | false=>rw [h2] at e;simp only [cond_false,Option.some.injEq] at e;subst e;exact ⟨rfl,rfl⟩
theorem Ahe {h:TCT cPt→Int} (p:PartH h) {l:List (TCT A3)} {re dr:Int} {i n:Nat} (hi:i<n):∀ (f k:Nat) (s s':SS),i<k→k+f≤n→s.1.length=n→V.inR l re dr i f k s=some s'→SM s.1→smP h s'.1=smP h s.1∧s'.1.length=n
 | 0,k,s,s',_,_,hl,e,hs=>by rw [V.inR,Option.some.injEq] at e;subst e;exact ⟨rfl,hl⟩
 | f+1,k,s,s',hk,hf,hl,e,hs=>by
  rw [V.inR] at e
  cases h1:Fe l re dr i k s with
  | none=>rw [h1] at e;simp at e
  | some s1 =>
   rw [h1,Option.bind_some] at e
   obtain ⟨a1,a2⟩:=Akg p (by omega) (by omega) (by omega) h1 hs
   obtain ⟨b1,b2⟩:=Ahe p hi f (k+1) s1 s' (by omega) (by omega) (by omega) e (A8i h1 hs)
   exact ⟨b1.trans a1,b2⟩
theorem A8q {h:TCT cPt→Int} (p:PartH h) {l:List (TCT A3)} {re dr:Int} {n:Nat} (hn:l.length=n):∀ (f i:Nat) (s s':SS),i+f≤n→s.1.length=n→I5 l re dr f i s=some s'→SM s.1→smP h s'.1=smP h s.1∧s'.1.length=n
 | 0,i,s,s',_,hl,e,hs=>by rw [M1,Option.some.injEq] at e;subst e;exact ⟨rfl,hl⟩
 | f+1,i,s,s',hf,hl,e,hs=>by
  rw [Jt] at e
  cases h1:V.inR l re dr i (l.length-(i+1)) (i+1) s with
  | none=>rw [h1] at e;simp at e
  | some s1 =>
   rw [h1,Option.bind_some] at e
   obtain ⟨a1,a2⟩:=Ahe p (n:=n) (by omega) _ _ _ _ (by omega) (by omega) hl h1 hs
   obtain ⟨b1,b2⟩:=A8q p hn f (i+1) s1 s' (by omega) a2 e (Ad9 _ _ _ _ h1 hs)
   exact ⟨b1.trans a1,b2⟩
theorem Adi {h:TCT cPt→Int} (p:PartH h) {l:List (TCT A3)} {s:Au} {re dr:Int} (hl:l.length=s.length) (hs:SM s) (e:(Bw l s re dr).2.2.1=0):smP h (Bw l s re dr).1=smP h s∧(Bw l s re dr).1.length=s.length:=by
 unfold Bw at e ⊢
 cases h1:Mk l s != 0 with
 | true=>rw [h1,cond_true] at e;exact absurd e (bne_iff_ne.1 h1)
 | false =>
  rw [h1,cond_false] at e
  simp only [cond_false]
  cases h2:!Hw re dr with
  | true=>rw [h2] at e;cases e
  | false =>
   rw [h2,cond_false] at e
   simp only [cond_false]
   cases h3:I5 l re dr l.length 0 (s,[]) with
   | none=>rw [h3] at e;cases e
   | some s'=>exact A8q p hl l.length 0 (s,[]) s' (by omega) rfl h3 hs
end St
end V
end Go.Proofs.YtlangijnealfjaaGreat
namespace Go.Proofs.YtlangijnealfjaaGreat
open Go.RowKit
namespace V
namespace St
theorem Yq {h:TCT cPt→Int}:∀ (l:Au) (k:Nat),k<l.length→smP h (l.take (k+1))=smP h (l.take k)+h (A9 l k).2.1
 | [],k,hk=>absurd hk (Nat.not_lt_zero k)
 | m::l,0,_=>by
  show h m.2.1+0=0+h m.2.1
  omega
 | m::l,k+1,hk=>by
  have ih:=Yq (h:=h) l k (by simpa using hk)
  show h m.2.1+smP h (l.take (k+1))=h m.2.1+smP h (l.take k)+h (A9 l k).2.1
  omega
structure InvQ (h:TCT cPt→Int) (W:List Int) (C M ms0:Au) (k:Nat) (ms:Au):Prop where
 l:ms.length=ms0.length
 s:smP h ms=smP h ms0+smP h (M.take k)-smP h (C.take k)
 r:∀ j:Nat,k≤j→j<W.length→A9 ms (Int.toNat (As W j (Aq cI)))=A9 ms0 (Int.toNat (As W j (Aq cI)))
theorem Bes {a b:Int} (h:0≤a) (k:a<b):¬ Int.toNat b=Int.toNat a:=by omega
theorem B9f {h:TCT cPt→Int} {W:List Int} {C M ms0:Au} {n:Nat} (hn:ms0.length=n) (hC:C.length=W.length) (hM:M.length=W.length) (hr:∀ w ∈ W,0≤w∧w<(n:Int)) (hg:∀ k:Nat,k<W.length→A9 C k=A9 ms0 (Int.toNat (As W k (Aq cI)))) (hs:∀ k k':Nat,k<k'→k'<W.length→As W k (Aq cI)<As W k' (Aq cI)) (e:smP h M=smP h C):smP h (scV W M ms0)=smP h ms0:=by
 have key:InvQ h W C M ms0 W.length (scV W M ms0):=B6 (n:=W.length) (Inv:=fun i (s:Au)=>InvQ h W C M ms0 i s) (fun i s s' hi q h2=>by
  cases h2
  have hl:=q.l
  have b:=hr _ (Ex hi (Aq cI))
  have hj:Int.toNat (As W i (Aq cI))<s.length:=by rw [hl,hn];exact Q1 b.1 b.2
  refine ⟨(C0 _ _ _).trans hl,?_,fun j h1 h2=>?_⟩
  ·have e1:=Yq (h:=h) M i (by rw [hM];exact hi)
   have e2:=Yq (h:=h) C i (by rw [hC];exact hi)
   have e3:=P9 (h:=h) s (Int.toNat (As W i (Aq cI))) (A9 M i) hj
   rw [q.r i (Nat.le_refl _) hi,← hg i hi] at e3
   have e4:=q.s
   omega
  ·have d:=hs i j (by omega) h2
   rw [Fw hj (Bes b.1 d)]
   exact q.r j (by omega) h2) W.length 0 ms0 _ (by omega) ⟨rfl,by simp,fun _ _ _=>rfl⟩ (J7 (Ax (scE W M) 0 W.length ms0))
 have:=key.s
 rw [← hM,List.take_length,hM,← hC,List.take_length] at this
 omega
def nbK (x:TCT cKn):Bool:=x.2.2.1 != 0
def MSk (h:TCT cPt→Int) (S:Int) (ms:Au) (ks:Kns):Prop:=smP h ms=S∨ks.any nbK=true
theorem Asi {ks l:Kns} (h:ks.any nbK=true):(ks++l).any nbK=true:=by rw [List.any_append,h,Bool.true_or]
theorem Asj {ks:Kns} {t st k a b:Int} (h:k≠0):(ks++[kn t st k a b]).any nbK=true:=by
 rw [List.any_append]
 have:([kn t st k a b]:Kns).any nbK=true:=by
  show (k != 0||false)=true
  rw [bne_iff_ne.2 h];rfl
 rw [this,Bool.or_true]
theorem B9g {b:TCT A3} {m:TCT B0} (h:(Qg b m).2.1=0):(Qg b m).1.2.1=m.2.1:=by
 have h':(M3 (bm b m)).2.1=0:=h
 show (M3 (bm b m)).1.2.1=m.2.1
 unfold M3 at h' ⊢
 cases h1:(bm b m).ok with
 | false=>rw [h1] at h';cases h'
 | true =>
  rw [h1] at h'
  simp only [Bool.not_true,cond_false] at h' ⊢
  cases h2:fpt (sX (bm b m)) (sY (bm b m)) with
  | false=>rw [h2] at h';cases h'
  | true=>rfl
theorem B0s {h:TCT cPt→Int} {bl:List (TCT A3)} {os:List Bool} {i:Nat} {ms ms':Au} (e:stE bl os i ms=.inl ms'):smP h ms'=smP h ms:=by
 unfold stE at e
 cases h1:!Cf ms os i with
 | true=>rw [h1] at e;cases e;rfl
 | false =>
  rw [h1] at e
  cases h3:(Qg (Ej bl i) (A9 ms i)).2.1 != 0 with
  | true=>rw [h3] at e;cases e
  | false =>
   rw [h3] at e
   cases e
   exact S5 (B9g (bne_eq_false_iff_eq.1 h3))
theorem B0t {h:TCT cPt→Int} {S:Int} {l:TCT Am} {j:Nat} {T st:Int} {s s':S2} (e:lvE l T st j s=.inl s') (q:MSk h S s.1 s.2.2):MSk h S s'.1 s'.2.2:=by
 unfold lvE at e
 cases e1:As s.2.1 j (Aq .b) with
 | true=>rw [e1] at e;cases e;exact q
 | false =>
  rw [e1] at e
  cases e2:onB l (A9 s.1 j).1 with
  | true=>rw [e2] at e;cases e;exact q
  | false =>
   rw [e2] at e
   cases e
   exact .inr (Asj (by decide))
theorem B0u {h:TCT cPt→Int} {S:Int} {bl:List (TCT A3)} {l:TCT Am} {n:Nat} {T st:Int} {s s':S2} (e:mvF bl l T st n s=.inl s') (q:MSk h S s.1 s.2.2):MSk h S s'.1 s'.2.2:=by
 unfold mvF at e
 cases e1:Ax (stE bl s.2.1) 0 n s.1 with
 | inr x=>rw [e1] at e;cases e
 | inl ms =>
  rw [e1] at e
  have h1:smP h ms=smP h s.1:=B6 (n:=n) (Inv:=fun _ (x:Au)=>smP h x=smP h s.1) (fun j x x' _ hx h3=>(B0s h3).trans hx) n 0 s.1 ms (by omega) rfl e1
  have h2:Ax (lvE l T st) 0 n (ms,s.2.1,s.2.2)=.inl s':=e
  have q1:MSk h S ms s.2.2:=by
   unfold MSk
   rw [h1];exact q
  exact B6 (n:=n) (Inv:=fun _ (x:S2)=>MSk h S x.1 x.2.2) (fun j x x' _ hx h3=>B0t h3 hx) n 0 (ms,s.2.1,s.2.2) s' (by omega) q1 h2
theorem Asl {W:List Int} {P:Prs} {t st:Int} {ks:Kns} (h:ks.any nbK=true):(kpV W P t st ks).any nbK=true :=
 B6 (n:=P.length) (Inv:=fun _ (x:Kns)=>x.any nbK=true) (fun j x x' _ hx h3=>by cases h3;exact Asi hx) P.length 0 ks _ (by omega) h (J7 (Ax (kpE W P t st) 0 P.length ks))
theorem A8r {h:TCT cPt→Int} (p:PartH h) {bl:List (TCT A3)} {c:TCT Cj} {n:Nat} {T st w fl:Int} {s:S2} {r:Au×Kns} (hm:s.1.length=n) (e:seF bl c T st w fl n s=.inl r):smP h r.1=smP h s.1:=by
 unfold seF at e
 cases he:(seS bl c w fl n s).2.2.1 != 0 with
 | true=>rw [he] at e;cases e
 | false =>
  rw [he] at e
  cases e
  have e0:=bne_eq_false_iff_eq.1 he
  have hG:InvH s.1 s.2.1 n n (seG bl w fl n s):=A2z
  have hW:InvW n (seG bl w fl n s):=B59
  have hb:=hG.g.b
  have hmm:=hG.g.m
  have hz:SM (seG bl w fl n s).2.2:=by
   have e1:(Bw (seG bl w fl n s).2.1 (seG bl w fl n s).2.2 c.1 c.2.1).2.2.1=0:=e0
   unfold Bw at e1
   cases h1:Mk (seG bl w fl n s).2.1 (seG bl w fl n s).2.2 != 0 with
   | true=>rw [h1,cond_true] at e1;exact absurd e1 (bne_iff_ne.1 h1)
   | false =>
    obtain ⟨_,k2,k3⟩:=Adq (bne_eq_false_iff_eq.1 h1)
    exact Ada _ _ k2 k3
  obtain ⟨a1,a2⟩:=Adi p (l:=(seG bl w fl n s).2.1) (s:=(seG bl w fl n s).2.2) (re:=c.1) (dr:=c.2.1) (by omega) hz e0
  exact B9f (C:=(seG bl w fl n s).2.2) (M:=(seS bl c w fl n s).1) hm hmm (by exact a2.trans hmm) hG.g.r (fun k hk=>(hG.h k hk).1) hW.s a1
theorem B0v {h:TCT cPt→Int} (p:PartH h) {S:Int} {bl:List (TCT A3)} {c:TCT Cj} {n:Nat} {T st w fl:Int} {s:S2} {r:Au×Kns} (hm:s.1.length=n) (e:seF bl c T st w fl n s=.inl r) (q:MSk h S s.1 s.2.2):MSk h S r.1 r.2:=by
 have e1:=A8r p hm e
 rcases q with q | q
 ·left
  rw [e1];exact q
 ·right
  unfold seF at e
  cases he:(seS bl c w fl n s).2.2.1 != 0 with
  | true=>rw [he] at e;cases e
  | false =>
   rw [he] at e
   cases e
   exact Asl q
theorem B0w {h:TCT cPt→Int} {S:Int} {b:TCT A3} {c:TCT Cj} {ps:Dss} {os:List Bool} {w fl t st:Int} {j k:Nat} {s:MK} (q:MSk h S s.1 s.2):(∀ s',bpE b c ps os w fl t st j k s=.inl s'→MSk h S s'.1 s'.2)∧(∀ s',bpE b c ps os w fl t st j k s=.inr (.inl s')→s'=s):=by
 unfold bpE
 cases e1:!Cf s.1 os j||Fi w fl j with
 | true=>exact ⟨(fun s' h=>by cases h),(fun s' h=>by cases h;rfl)⟩
 | false =>
  simp only [cond_false]
  cases e2:(bmV b (A9 s.1 j) (Fc ps k) c).2.1==0 with
  | true =>
   refine ⟨(fun s' h=>?_),(fun s' h=>by cases h)⟩
   cases h
   exact .inr (Asj (by decide))
  | false =>
   simp only [cond_false]
   cases e3:(bmV b (A9 s.1 j) (Fc ps k) c).2.1==4 with
   | true=>exact ⟨(fun s' h=>by cases h),(fun s' h=>by cases h)⟩
   | false=>exact ⟨(fun s' h=>by cases h;exact q),(fun s' h=>by cases h)⟩
theorem Ahf {h:TCT cPt→Int} {S:Int} {b:TCT A3} {c:TCT Cj} {ps:Dss} {os:List Bool} {w fl t st:Int} {j:Nat}:∀ (m k:Nat) (s s':MK),MSk h S s.1 s.2→Yd (Ax (bpE b c ps os w fl t st j) k m s)=.inl s'→MSk h S s'.1 s'.2
 | 0,k,s,s',q,e=>by cases e;exact q
 | m+1,k,s,s',q,e=>by
  unfold Ax at e
  have a:=B0w (b:=b) (c:=c) (ps:=ps) (os:=os) (w:=w) (fl:=fl) (t:=t) (st:=st) (j:=j) (k:=k) q
  cases hf:bpE b c ps os w fl t st j k s with
  | inl t1=>rw [hf] at e;exact Ahf m (k+1) t1 s' (a.1 t1 hf) e
  | inr y =>
   rw [hf] at e
   cases y with
   | inl t1 =>
    have e':=a.2 t1 hf
    subst e'
    cases e
    exact q
   | inr x=>cases e
theorem B0x {h:TCT cPt→Int} {S:Int} {bl:List (TCT A3)} {c:TCT Cj} {ps:Dss} {n:Nat} {w fl t st:Int} {s:S2} {s':MK} (e:buF bl c ps t st w fl n s=.inl s') (q:MSk h S s.1 s.2.2):MSk h S s'.1 s'.2:=by
 unfold buF at e
 exact B6 (n:=n) (Inv:=fun _ (x:MK)=>MSk h S x.1 x.2) (fun j x x' _ hx h3=>Ahf ps.length 0 x x' hx h3) n 0 (s.1,s.2.2) s' (by omega) q e
theorem B0y {h:TCT cPt→Int} (p:PartH h) {k:CT} {s s':S2} {ms:Au} (hn8:k.bl.length≤8) (hp:k.ps.length≤1000) (hm:s.1.length=k.bl.length) (ho:s.2.1.length=k.bl.length) (e1:Ax (slE k.l s.2.1 k.w k.fl) 0 k.bl.length s.1=.inl ms) (e:tkF k s=.inl s'):MSk h (smP h ms) s'.1 s'.2.2∧s'.2.2.length≤s.2.2.length+129152:=by
 unfold tkF at e
 cases e0:k.t==4000 with
 | true=>rw [e0] at e;cases e
 | false =>
  rw [e0,cond_false,e1] at e
  have h2:Ax (tkE k) 0 16 (ms,s.2.1,s.2.2)=.inl s':=e
  have hl:ms.length=k.bl.length:=B6 (n:=k.bl.length) (Inv:=fun _ (x:Au)=>x.length=k.bl.length) (fun i s s' _ hl h=>(Ah2 h).trans hl) k.bl.length 0 _ _ (by omega) hm e1
  have key:Inv2 k.bl.length (s.2.2.length+16*8072) 0 s'∧MSk h (smP h ms) s'.1 s'.2.2:=B6 (n:=16) (Inv:=fun i (x:S2)=>Inv2 k.bl.length (s.2.2.length+i*8072) 0 x∧MSk h (smP h ms) x.1 x.2.2) (fun i x x' hi hx h3=>by
   refine ⟨A52 (m:=16) hn8 hp i x x' hi hx.1 h3,?_⟩
   have q:=hx.2
   unfold tkE at h3
   cases h1:mvF k.bl k.l k.t ((i+1:Nat):Int) k.bl.length x with
   | inr e=>rw [h1] at h3;cases h3
   | inl s1 =>
    rw [h1] at h3
    simp only at h3
    have a:=B0u h1 q
    have al:=(A51 hx.1 h1).m
    cases h2:seF k.bl k.c k.t ((i+1:Nat):Int) k.w k.fl k.bl.length s1 with
    | inr e=>rw [h2] at h3;cases h3
    | inl s2 =>
     rw [h2] at h3
     simp only at h3
     have b:=B0v p al h2 a
     cases h4:buF k.bl k.c k.ps k.t ((i+1:Nat):Int) k.w k.fl k.bl.length (s2.1,s1.2.1,s2.2) with
     | inr e=>rw [h4] at h3;cases h3
     | inl s3 =>
      rw [h4] at h3
      cases h3
      exact B0x (s:=(s2.1,s1.2.1,s2.2)) h4 b) 16 0 (ms,s.2.1,s.2.2) s' (by omega) ⟨⟨hl,ho,by show s.2.2.length≤s.2.2.length+0*8072+0;omega⟩,.inl rfl⟩ h2
  have hk:=key.1.k
  exact ⟨key.2,by omega⟩
end St
end V
end Go.Proofs.YtlangijnealfjaaGreat
namespace Go.Proofs.YtlangijnealfjaaGreat
open Go.RowKit
namespace V
namespace St
theorem A8s {α:Type} (l:List α) (i:Nat) (x y:α):Bf (Bf l i x) i y=Bf l i y:=by
 rw [Bp,Bp,Bp,List.set_set]
theorem RQ.skM {bl:List (TCT A3)} {n:Nat} {N:Int} {ms:Au} {os:List Bool} {w:TCT cBw} (q:RQ bl n ms os) (hs:SM ms) (hb:BwOk N w) (hi:Int.toNat w.1<n) (ho:Di os (Int.toNat w.1)=false) (hg:A56 (St.skM ms w) w.1=false):RQ bl n (St.skM ms w) os∧∀ j:Nat,(A9 (St.skM ms w) j).1=(A9 ms j).1:=by
 have hm:=q.m
 have e:=Azw hs hb
 rw [hg] at e
 have hst:B9 (A9 (St.skM ms w) (Int.toNat w.1)).2.1.1 (A9 (St.skM ms w) (Int.toNat w.1)).2.1.2.1=true:=by
  cases h:B9 (A9 (St.skM ms w) (Int.toNat w.1)).2.1.1 (A9 (St.skM ms w) (Int.toNat w.1)).2.1.2.1 with
  | true=>rfl
  | false=>rw [h] at e;cases e
 have key:∃ x:TCT B0,St.skM ms w=Bf ms (Int.toNat w.1) x∧arS (A9 ms (Int.toNat w.1)) x:=by
  unfold St.skM St.mY St.mX
  rw [A8s,Io (show Int.toNat w.1<ms.length by omega) rfl]
  exact ⟨_,rfl,rfl,rfl⟩
 obtain ⟨x,hx,ha⟩:=key
 rw [hx] at hst ⊢
 rw [Io (by omega) rfl] at hst
 refine ⟨q.set hi (P7 (q.ok _ hi) ha hst) ho,fun j=>?_⟩
 by_cases ej:j=Int.toNat w.1
 ·rw [Io (by omega) ej,ej];exact ha.1
 ·rw [Fw (by omega) ej]
theorem Ahg {m:TCT B0} (h:Fz m=true):m.2.1.1=0∧m.2.1.2.1=0:=by
 unfold Fz at h
 rw [Bool.and_eq_true] at h
 exact ⟨beq_iff_eq.1 h.1,beq_iff_eq.1 h.2⟩
theorem PartH.zero {h:TCT cPt→Int} (p:PartH h) {m:TCT B0} (e:Fz m=true):h m.2.1=0:=by
 obtain ⟨a,b⟩:=Ahg e
 cases p with
 | x=>exact a
 | y=>exact b
theorem A8t {h:TCT cPt→Int} (p:PartH h):∀ (l:Au),l.all Fz=true→smP h l=0
 | [],_=>rfl
 | m::l,e=>by
  rw [List.all_cons,Bool.and_eq_true] at e
  show h m.2.1+smP h l=0
  rw [p.zero e.1,A8t p l e.2];rfl
theorem S7 {s:TCT cSt} (h:D5 s=true):AS (msT s):=fun j=>by
 unfold D5 at h
 unfold A9
 by_cases hj:j<(msT s).length
 ·exact List.all_eq_true.1 h _ (Ex hj _)
 ·rw [F8,List.getD_eq_getElem?_getD,List.getElem?_eq_none (Nat.le_of_not_lt hj)];rfl
theorem B5b (a:Int):0-0+a=a:=by omega
structure SkOk (g:TCT cGr) (s:TCT cSt) (w:TCT cBw):Prop where
 sk:StaOk g s
 b:BwOk ((A2 g).length:Int) w
 r:D5 s=true
 o:Di (osT s) (Int.toNat w.1)=false
theorem Ahh {g:TCT cGr} {s:TCT cSt} {w:TCT cBw} (h:(skV g s w).2.2.1=0):SkOk g s w∧skV g s w=skG g s w:=by
 unfold skV at h ⊢
 cases h1:K5 g s != 0 with
 | true=>rw [h1] at h;exact absurd h (bne_iff_ne.1 h1)
 | false =>
  rw [h1] at h
  cases h2:bwB ((A2 g).length:Int) w with
  | true=>rw [h2] at h;cases h
  | false =>
   rw [h2] at h
   cases h3:!D5 s||As (osT s) (Int.toNat w.1) (Aq .b) with
   | true=>rw [h3] at h;cases h
   | false =>
    rw [Bool.or_eq_false_iff] at h3
    exact ⟨⟨Ad8 (bne_eq_false_iff_eq.1 h1),Arm h2,by simpa using h3.1,h3.2⟩,rfl⟩
theorem B9h {g:TCT cGr} {s:TCT cSt} {w:TCT cBw} (h:SkOk g s w) (hb:bwB ((A2 g).length:Int) w=false):skV g s w=skG g s w:=by
 unfold skV
 have h3:As (osT s) (Int.toNat w.1) (Aq .b)=false:=h.o
 rw [Asa h.sk,hb,h.r,h3]
 rfl
theorem SkOk.set {g:TCT cGr} {s:TCT cSt} {w:TCT cBw} (h:SkOk g s w):RK (A2 g) (A2 g).length (msT s) (He (msT s) w.1 (twP w)) (osT s)∧SM (He (msT s) w.1 (twP w))∧∀ f:TCT cPt→Int,PartH f→smP f (He (msT s) w.1 (twP w))=f (twP w):=by
 have tw:=Arl h.b.f h.b.z h.b.p
 have q:=(Yo h.sk).1
 have hm:=q.m
 have hi:Int.toNat w.1<(A2 g).length:=Q1 h.b.b.1 h.b.b.2
 have hst:B9 (twP w).1 (twP w).2.1=true:=Yn ⟨Int.le_trans (by decide) tw.2.1.1,Int.le_trans tw.2.1.2 (by decide)⟩ ⟨Int.le_trans (by decide) tw.2.2.1,Int.le_trans tw.2.2.2 (by decide)⟩
 have k0:RK (A2 g) (A2 g).length (msT s) (msT s) (osT s):=⟨q,fun _=>rfl⟩
 refine ⟨k0.set hi (P7 (q.ok _ hi) ⟨rfl,rfl⟩ hst) h.o rfl,?_,fun f p=>?_⟩
 ·refine SM.set (fun j=>?_) hst
  obtain ⟨a,b⟩:=Ahg (S7 h.r j)
  unfold smB
  rw [a,b];decide
 ·unfold He
  rw [P9 _ _ _ (by omega),A8t p _ h.r,p.zero (S7 h.r _)]
  cases p with
  | x=>exact B5b _
  | y=>exact B5b _
theorem Adj {g:TCT cGr} {w:TCT cBw} {ms:Au} {os:List Bool} {fl:Int} (hb:BwOk ((A2 g).length:Int) w) (hf:0≤fl∧fl≤8):A4s (A2 g).length (ms,os,w.1,fl,0,())=false:=by
 unfold A4s
 show (decide (w.1<0)||(decide (w.1≥((A2 g).length:Int))||(decide (fl<0)||(decide (fl>8)||(decide ((0:Int)<0)||decide ((0:Int)>4000))))))=false
 rw [decide_eq_false (Int.not_lt.2 hb.b.1),decide_eq_false (Int.not_le.2 hb.b.2),decide_eq_false (Int.not_lt.2 hf.1),decide_eq_false (Int.not_lt.2 hf.2)]
 rfl
theorem Ahi (m:Int):fwD m 0=0:=by
 unfold fwD
 rw [show U8 0=0 from rfl,Int.mul_zero]
 decide
theorem B0z {h:TCT cPt→Int} {ms:Au} {b:Int} (hs:SM ms):smP h (mX ms b 0)=smP h ms:=by
 unfold mX
 refine S5 ?_
 have a:=Ft (hs (Int.toNat b))
 rw [Int.add_zero,Be (Int.le_trans (by decide) a.1.1) (Int.le_trans a.1.2 (by decide))]
theorem Asm {ms:Au} {b:Int} (hs:SM ms):SM (mX ms b 0):=by
 unfold mX
 refine SM.set hs ?_
 have a:=Ft (hs (Int.toNat b))
 rw [Int.add_zero,Be (Int.le_trans (by decide) a.1.1) (Int.le_trans a.1.2 (by decide))]
 exact hs (Int.toNat b)
theorem B10 {h:TCT cPt→Int} {ms:Au} {b:Int} (hs:SM ms):smP h (mY ms b 0)=smP h ms:=by
 unfold mY
 refine S5 ?_
 have a:=Ft (hs (Int.toNat b))
 rw [Int.add_zero,Be (Int.le_trans (by decide) a.2.1) (Int.le_trans a.2.2 (by decide))]
theorem Asn {g:TCT cGr} {s:TCT cSt} {w:TCT cBw} (h:(skV g s w).2.2.1=0):StaOk g (skV g s w).1∧∀ f:TCT cPt→Int,PartH f→((skV g s w).2.1=[]∨w.2.2.2.1=0∨w.2.2.2.1=4)→smP f (msT (skV g s w).1)=f (twP w):=by
 obtain ⟨k,e⟩:=Ahh h
 obtain ⟨k1,k2,k3⟩:=k.set
 have p:=(Yo k.sk).2
 have n8:=k.sk.n8
 have hi:Int.toNat w.1<(A2 g).length:=Q1 k.b.b.1 k.b.b.2
 rw [e] at h ⊢
 unfold skG at h ⊢
 cases h4:w.2.2.2.1==4 with
 | true =>
  simp only [cond_true]
  exact ⟨Yp k.sk.gr k.sk.n1 n8 k1.q (k1.ol p) (Adj k.b (by decide)),fun f pf _=>k3 f pf⟩
 | false =>
  rw [h4] at h
  simp only [cond_false] at h ⊢
  cases hf:seF (A2 g) g.2.2.1 0 0 w.1 0 (A2 g).length (He (msT s) w.1 (twP w),osT s,[]) with
  | inr x=>rw [hf] at h;exact absurd h (Yl hf)
  | inl r =>
   rw [hf] at h
   have rk:=As4 hf k1.q
   have sm:=B8u hf k2
   have ol:OL g.1 (A2 g).length r.1 (osT s):=rk.ol (k1.ol p)
   have sum:∀ f:TCT cPt→Int,PartH f→smP f r.1=f (twP w):=fun f pf=>(A8r pf k1.q.m hf).trans (k3 f pf)
   obtain ⟨ms,ks⟩:=r
   unfold skF at h ⊢
   simp only at h ⊢
   cases hk:decide ((ks.length:Int)>0) with
   | false =>
    exact ⟨Yp k.sk.gr k.sk.n1 n8 rk.q ol (Adj k.b (by decide)),fun f pf _=>sum f pf⟩
   | true =>
    rw [hk] at h
    cases hg:A56 (skM ms w) w.1 with
    | true=>rw [hg] at h;cases h
    | false =>
     obtain ⟨r1,r2⟩:=rk.q.skM sm k.b hi k.o hg
     refine ⟨Yp k.sk.gr k.sk.n1 n8 r1 (fun j hj hjo=>?_) (Adj k.b (by decide)),fun f pf hc=>?_⟩
     ·show onB g.1 (A9 (skM ms w) j).1=true
      rw [r2 j];exact ol j hj hjo
     ·rcases hc with hc | hc | hc
      ·have:(ks:Kns)=[]:=hc
       rw [this] at hk
       cases hk
      ·show smP f (skM ms w)=_
       unfold skM
       rw [hc,Ahi,Ahi,B10 (Asm sm),B0z sm]
       exact sum f pf
      ·rw [hc] at h4;cases h4
end St
end V
end Go.Proofs.YtlangijnealfjaaGreat
namespace Go.Proofs.YtlangijnealfjaaGreat
open Go.RowKit
namespace V
namespace St
structure InvV (i:Nat) (s:GA):Prop where
 b:s.2.1.length=s.1.length
 m:s.2.2.length=s.1.length
 v:∀ k:Nat,k<s.1.length→Mj (Ej s.2.1 k) (A9 s.2.2 k)=true
theorem Bet {bl:List (TCT A3)} {ms:Au} {os:List Bool} {w fl:Int} {n:Nat} (q:RQ bl n ms os):InvV n (gaV bl w fl n ms os) :=
 B6 (n:=n) (Inv:=InvV) (fun i s s' hi h h2=>by
  unfold gaE at h2
  have hb:=h.b
  have hm:=h.m
  cases hc:!As os i (Aq .b)&&!Fi w fl i with
  | false=>rw [hc] at h2;cases h2;exact ⟨hb,hm,h.v⟩
  | true =>
   rw [hc] at h2
   cases h2
   refine ⟨?_,?_,fun k hk=>?_⟩
   ·show (s.2.1++[Ej bl i]).length=(s.1++[(i:Int)]).length
    rw [List.length_append,List.length_append,hb];rfl
   ·show (s.2.2++[A9 ms i]).length=(s.1++[(i:Int)]).length
    rw [List.length_append,List.length_append,hm];rfl
   ·have hk2:k<(s.1++[(i:Int)]).length:=hk
    have hk':k<s.1.length+1:=by rw [List.length_append,List.length_singleton] at hk2;exact hk2
    show Mj (As (s.2.1++[Ej bl i]) k (Aq A3)) (As (s.2.2++[A9 ms i]) k (Aq B0))=true
    rw [Gl (by omega),Gl (by omega)]
    by_cases e:k=s.1.length
    ·rw [if_pos (by omega),if_pos (by omega)];exact q.ok i hi
    ·rw [if_neg (by omega),if_neg (by omega)];exact h.v k (by omega)) n 0 ([],[],[]) _ (by omega) ⟨rfl,rfl,fun k hk=>absurd hk (Nat.not_lt_zero k)⟩ (J7 (Ax (gaE bl ms os w fl) 0 n ([],[],[])))
theorem Aso:∀ (l:List (TCT A3)) (s:Au),l.length=s.length→(∀ k,k<l.length→Mj (Ej l k) (A9 s k)=true)→(l.zip s).all Qk=true
 | [],[],_,_=>rfl
 | [],_::_,h,_=>by simp at h
 | _::_,[],h,_=>by simp at h
 | b::l,m::s,h,k=>by
  rw [List.zip_cons_cons,List.all_cons,Bool.and_eq_true]
  exact ⟨k 0 (by simp),Aso l s (by simpa using h) fun j hj=>k (j+1) (by simpa using hj)⟩
theorem Ahj {g:TCT cGr} (h:groE g=0):Hw g.2.2.1.1 g.2.2.1.2.1=true:=by
 unfold groE at h
 cases h1:Cp g.1 != 0 with
 | true=>rw [h1,cond_true] at h;exact absurd h (bne_iff_ne.1 h1)
 | false =>
  rw [h1,cond_false] at h
  cases h2:decide (((A2 g).length:Int)<1)||decide (((A2 g).length:Int)>8) with
  | true=>rw [h2] at h;cases h
  | false =>
   rw [h2,cond_false] at h
   cases h3:okG g with
   | false=>rw [h3] at h;cases h
   | true =>
    unfold okG at h3
    rw [Bool.and_eq_true] at h3
    exact h3.2
end St
end V
end Go.Proofs.YtlangijnealfjaaGreat
namespace Go.Proofs.YtlangijnealfjaaGreat
open Go.RowKit
namespace V
namespace St
end St
end V
end Go.Proofs.YtlangijnealfjaaGreat
