import Derived.Test.YtcfanlgpkefogaaGreatDw
namespace Go.Proofs.YtcfanlgpkefogaaGreat
open Go.RowKit
namespace V
namespace St
theorem Bll {α:Type} {d:α} {l:List α} {i j:Nat} {x:α} (hi:i<l.length):Bav (Bb7 l i x) j d=if j=i then x else Bav l j d:=by
 rw [Bbe,Bcv,Bcv,List.getD_eq_getElem?_getD,List.getD_eq_getElem?_getD,List.getElem?_set]
 by_cases h:i=j
 ·subst h
  rw [if_pos rfl,if_pos hi,if_pos rfl];rfl
 ·rw [if_neg h,if_neg (fun e=>h e.symm)]
theorem Bet {l:Baj} {i j:Nat} {x:TCT Baq} (hi:i<l.length) (h:j=i):V2 (Bb7 l i x) j=x:=by unfold V2;rw [Bll hi,if_pos h]
theorem Bdx {l:Baj} {i j:Nat} {x:TCT Baq} (hi:i<l.length) (h:¬ j=i):V2 (Bb7 l i x) j=V2 l j:=by unfold V2;rw [Bll hi,if_neg h]
def Bbu (os:List Bool) (i:Nat):Bool:=Bav os i (Bas .b)
theorem Cal {l:List Bool} {i j:Nat} {x:Bool} (hi:i<l.length) (h:j=i):Bbu (Bb7 l i x) j=x:=by unfold Bbu;rw [Bll hi,if_pos h]
theorem Bza {l:List Bool} {i j:Nat} {x:Bool} (hi:i<l.length) (h:¬ j=i):Bbu (Bb7 l i x) j=Bbu l j:=by unfold Bbu;rw [Bll hi,if_neg h]
def arS (m m':TCT Baq):Prop:=m'.1=m.1∧m'.2.2.1=m.2.2.1
theorem Blm {b:TCT Fq} {m m':TCT Baq} (h:Biu b m=true) (ha:arS m m') (hs:smB m'=true):Biu b m'=true:=by
 unfold Biu Bn2 at h ⊢
 simp only [Bool.and_eq_true] at h ⊢
 rw [ha.1,ha.2]
 exact ⟨h.1,h.2.1,hs,h.2.2.2⟩
structure RQ (bl:List (TCT Fq)) (n:Nat) (ms:Baj) (os:List Bool):Prop where
 m:ms.length=n
 o:os.length=n
 ok:∀ j,j<n→Biu (Bc1 bl j) (V2 ms j)=true
 z:∀ j,j<n→Bbu os j=true→Bdo (V2 ms j)=true
def OL (l:TCT Bam) (n:Nat) (ms:Baj) (os:List Bool):Prop:=∀ j,j<n→Bbu os j=false→onB l (V2 ms j).1=true
theorem Bo2 {ms:Baj} {os:List Bool} {i:Nat} (h:(!Bbo ms os i)=false):Bbu os i=false:=by
 unfold Bbo at h
 unfold Bbu
 cases ho:Bav os i (Bas .b) with
 | false=>rfl
 | true=>rw [ho] at h;cases h
theorem RQ.set {bl:List (TCT Fq)} {n i:Nat} {ms:Baj} {os:List Bool} {x:TCT Baq} (q:RQ bl n ms os) (hi:i<n) (hx:Biu (Bc1 bl i) x=true) (ho:Bbu os i=false):RQ bl n (Bb7 ms i x) os:=by
 have hm:=q.m
 refine ⟨(Bba _ _ _).trans hm,q.o,fun j hj=>?_,fun j hj h=>?_⟩
 ·by_cases e:j=i
  ·rw [Bet (by omega) e,e];exact hx
  ·rw [Bdx (by omega) e];exact q.ok j hj
 ·by_cases e:j=i
  ·rw [e,ho] at h;cases h
  ·rw [Bdx (by omega) e];exact q.z j hj h
theorem OL.set {l:TCT Bam} {n i:Nat} {ms:Baj} {os:List Bool} {x:TCT Baq} (q:OL l n ms os) (hm:ms.length=n) (hi:i<n) (hx:x.1=(V2 ms i).1):OL l n (Bb7 ms i x) os:=fun j hj h=>by
 by_cases e:j=i
 ·rw [Bet (by omega) e,hx,← e];exact q j hj h
 ·rw [Bdx (by omega) e];exact q j hj h
theorem Csi {p n A:Int} (hn:0<n) (h1 : -(A*n)≤p) (h2:p≤A*n) : -A≤Int.tdiv p n∧Int.tdiv p n≤A:=by
 have key:∀ q:Int,0≤q→q≤A*n→0≤q / n∧q / n≤A:=fun q h0 h=>by
  refine ⟨Int.ediv_nonneg h0 (by omega),?_⟩
  have:q / n<A+1:=Int.ediv_lt_of_lt_mul hn (by rw [Int.add_mul,Int.one_mul];omega)
  omega
 by_cases hp:0≤p
 ·rw [Int.tdiv_eq_ediv_of_nonneg hp]
  have:=key p hp h2
  omega
 ·have e:p = -(-p):=by omega
  rw [e,Int.neg_tdiv,Int.tdiv_eq_ediv_of_nonneg (show 0 ≤ -p by omega)]
  have:=key (-p) (by omega) (by omega)
  omega
theorem C2r {x a n A:Int} (hx : -A≤x∧x≤A) (hA:0≤A) (ha:0≤a∧a≤n) (hn:0<n) : -A≤Int.tdiv (x*a) n∧Int.tdiv (x*a) n≤A:=by
 have h1:x*a≤A*a:=Int.mul_le_mul_of_nonneg_right hx.2 ha.1
 have h2:(-A)*a≤x*a:=Int.mul_le_mul_of_nonneg_right hx.1 ha.1
 have h3:A*a≤A*n:=Int.mul_le_mul_of_nonneg_left ha.2 hA
 rw [Int.neg_mul] at h2
 exact Csi hn (by omega) (by omega)
theorem Btd {x y:Int} (hx : -16777216≤x∧x≤16777216) (hy : -16777216≤y∧y≤16777216):Bb3 x y=true:=by
 unfold Bb3 Bb6
 rw [decide_eq_false (show ¬ x < -16777216 by omega),decide_eq_false (show ¬ 16777216<x by omega),decide_eq_false (show ¬ y < -16777216 by omega),decide_eq_false (show ¬ 16777216<y by omega)]
 rfl
theorem Bdu {x y:Int} (h:Bb3 x y=true):(-16777216≤x∧x≤16777216)∧(-16777216≤y∧y≤16777216):=by
 unfold Bb3 at h
 simp only [Bool.and_eq_true,Bool.not_eq_true'] at h
 exact ⟨Bdf h.1,Bdf h.2⟩
theorem C2s {x y l:Int} (h:(Bk7 x y l).2.1=0):Bb3 (Bk7 x y l).1.1 (Bk7 x y l).1.2.1=true:=by
 unfold Bk7 at h ⊢
 cases h1:Bb3 x y with
 | false=>rw [h1] at h;cases h
 | true =>
  rw [h1] at h
  simp only [Bool.not_true,cond_false] at h ⊢
  cases h2:Bb6 l 0 33554432 with
  | true=>rw [h2] at h;cases h
  | false =>
   rw [h2] at h
   simp only [cond_false] at h ⊢
   cases h3:decide (slN x y≤8*l) with
   | true=>rfl
   | false =>
    have b:=Bdu h1
    have c:=Bdf h2
    have d:=of_decide_eq_false h3
    simp only [cond_false]
    exact Btd (C2r b.1 (by omega) ⟨by omega,by omega⟩ (by omega)) (C2r b.2 (by omega) ⟨by omega,by omega⟩ (by omega))
theorem C74 {l:TCT Bam} {bl:List (TCT Fq)} {os:List Bool} {w fl:Int} {i n:Nat} {ms ms':Baj} (hi:i<n) (h:slE l os w fl i ms=.inl ms') (q:RQ bl n ms os) (p:OL l n ms os):RQ bl n ms' os∧OL l n ms' os:=by
 unfold slE at h
 cases h1:!Bbo ms os i||Bck w fl i with
 | true=>rw [h1] at h;cases h;exact ⟨q,p⟩
 | false =>
  rw [h1] at h
  rw [Bool.or_eq_false_iff] at h1
  cases h2:Bdr l (V2 ms i).1 != 0 with
  | true=>rw [h2] at h;cases h
  | false =>
   rw [h2] at h
   cases h3:(Bhq l (V2 ms i)).2.1 != 0 with
   | true=>rw [h3] at h;cases h
   | false =>
    rw [h3] at h
    cases h
    have hs:smB (Bsw l (V2 ms i))=true:=C2s (bne_eq_false_iff_eq.1 h3)
    exact ⟨q.set hi (Blm (q.ok i hi) ⟨rfl,rfl⟩ hs) (Bo2 h1.1),p.set q.m hi rfl⟩
theorem Cwj (n m:Int) (hm:1≤m) : -(32*m)≤DR n (64*m)∧DR n (64*m)≤32*m-1:=by
 unfold DR DW
 have a:=Int.ediv_mul_le (2*n+64*m) (show 2*(64*m)≠0 by omega)
 have b:=Int.lt_ediv_add_one_mul_self (2*n+64*m) (show 0<2*(64*m) by omega)
 generalize (2*n+64*m) / (2*(64*m))=w at a b
 rw [Int.add_mul,Int.one_mul] at b
 have e:w*(2*(64*m))=2*(w*(64*m)):=by grind
 rw [e] at a b
 omega
theorem C75 {x lo hi:Int} (h:lo≤x∧x≤hi):Bb6 x lo hi=false:=by
 unfold Bb6
 rw [decide_eq_false (show ¬ x<lo by omega),decide_eq_false (show ¬ hi<x by omega)];rfl
theorem Cle {b:TCT Fq} {m:TCT Baq} (h:(Bgt (bm b m)).2.1=0):Biu b (Bgt (bm b m)).1=true:=by
 unfold Bgt at h ⊢
 cases h1:(bm b m).ok with
 | false=>rw [h1] at h;cases h
 | true =>
  rw [h1] at h
  simp only [Bool.not_true,cond_false] at h ⊢
  cases h2:fpt (sX (bm b m)) (sY (bm b m)) with
  | false=>rw [h2] at h;cases h
  | true =>
   simp only [Bool.not_true,cond_false]
   have f:=Bm.fit h1
   unfold Bm.ok Bn2 at h1
   simp only [Bool.and_eq_true] at h1
   unfold Biu Bn2
   simp only [Bool.and_eq_true,Bool.not_eq_true']
   have hm:1≤b.1:=Int.le_trans (by decide) f.m1
   exact ⟨h1.1,h2,h1.2.2.1,C75 (Cwj _ b.1 hm),C75 (Cwj _ b.1 hm)⟩
theorem Clf {bl:List (TCT Fq)} {os:List Bool} {i n:Nat} {ms ms':Baj} (hi:i<n) (h:stE bl os i ms=.inl ms') (q:RQ bl n ms os):RQ bl n ms' os:=by
 unfold stE at h
 cases h1:!Bbo ms os i with
 | true=>rw [h1] at h;cases h;exact q
 | false =>
  rw [h1] at h
  cases h3:(Bhr (Bc1 bl i) (V2 ms i)).2.1 != 0 with
  | true=>rw [h3] at h;cases h
  | false =>
   rw [h3] at h
   cases h
   exact q.set hi (Cle (bne_eq_false_iff_eq.1 h3)) (Bo2 h1)
theorem D03 {l:TCT Bam} {bl:List (TCT Fq)} {t st:Int} {i n:Nat} {s s':S2} (hi:i<n) (h:lvE l t st i s=.inl s') (q:RQ bl n s.1 s.2.1) (p:OL l i s.1 s.2.1):RQ bl n s'.1 s'.2.1∧OL l (i+1) s'.1 s'.2.1:=by
 have hm:=q.m
 have ho:=q.o
 unfold lvE at h
 cases h1:Bav s.2.1 i (Bas .b) with
 | true =>
  rw [h1] at h
  cases h
  refine ⟨q,fun j hj e=>?_⟩
  by_cases k:j=i
  ·rw [k] at e;unfold Bbu at e;rw [h1] at e;cases e
  ·exact p j (by omega) e
 | false =>
  rw [h1] at h
  cases h2:onB l (V2 s.1 i).1 with
  | true =>
   rw [h2] at h
   cases h
   refine ⟨q,fun j hj e=>?_⟩
   by_cases k:j=i
   ·rw [k];exact h2
   ·exact p j (by omega) e
  | false =>
   rw [h2] at h
   cases h
   refine ⟨⟨(Bba _ _ _).trans hm,(Bba _ _ _).trans ho,fun j hj=>?_,fun j hj e=>?_⟩,fun j hj e=>?_⟩
   ·by_cases k:j=i
    ·rw [Bet (by omega) k,k]
     exact Blm (q.ok i hi) ⟨rfl,rfl⟩ rfl
    ·rw [Bdx (by omega) k];exact q.ok j hj
   ·by_cases k:j=i
    ·rw [Bet (by omega) k];rfl
    ·rw [Bza (by omega) k] at e
     rw [Bdx (by omega) k];exact q.z j hj e
   ·by_cases k:j=i
    ·rw [Cal (by omega) k] at e;cases e
    ·rw [Bza (by omega) k] at e
     rw [Bdx (by omega) k];exact p j (by omega) e
theorem Clg {bl:List (TCT Fq)} {l:TCT Bam} {t st:Int} {n:Nat} {s s':S2} (h:mvF bl l t st n s=.inl s') (q:RQ bl n s.1 s.2.1):RQ bl n s'.1 s'.2.1∧OL l n s'.1 s'.2.1:=by
 unfold mvF at h
 cases h1:Bat (stE bl s.2.1) 0 n s.1 with
 | inr e=>rw [h1] at h;cases h
 | inl ms =>
  rw [h1] at h
  have a:RQ bl n ms s.2.1:=Bax (n:=n) (Inv:=fun _ (x:Baj)=>RQ bl n x s.2.1) (fun i x x' hi hq h=>Clf hi h hq) n 0 _ _ (by omega) q h1
  have h2:Bat (lvE l t st) 0 n (ms,s.2.1,s.2.2)=.inl s':=h
  exact Bax (n:=n) (Inv:=fun i (x:S2)=>RQ bl n x.1 x.2.1∧OL l i x.1 x.2.1) (fun i x x' hi hq h=>D03 hi h hq.1 hq.2) n 0 (ms,s.2.1,s.2.2) s' (by omega) ⟨a,fun j hj=>absurd hj (Nat.not_lt_zero j)⟩ h2
end St
end V
end Go.Proofs.YtcfanlgpkefogaaGreat
namespace Go.Proofs.YtcfanlgpkefogaaGreat
open Go.RowKit
namespace V
namespace St
def SA (G M:Baj):Prop:=∀ j:Nat,arS (V2 G j) (V2 M j)
theorem SA.set {G M:Baj} {i:Nat} {x:TCT Baq} (h:SA G M) (hx:arS (V2 M i) x):SA G (Bb7 M i x):=fun j=>by
 by_cases hi:i<M.length
 ·by_cases e:j=i
  ·rw [Bet hi e,e]
   exact ⟨hx.1.trans (h i).1,hx.2.trans (h i).2⟩
  ·rw [Bdx hi e];exact h j
 ·have:Bb7 M i x=M:=by rw [Bbe];exact List.set_eq_of_length_le (Nat.le_of_not_lt hi)
  rw [this];exact h j
theorem D04 {a b:Bm} {k:Bme} (h:(Bfe a b k).2.2.1=0):(Bfe a b k).1.1=(a.px,a.py,())∧(Bfe a b k).1.2.2.1=(a.rx,a.ry,())∧(Bfe a b k).2.1.1=(b.px,b.py,())∧(Bfe a b k).2.1.2.2.1=(b.rx,b.ry,()):=by
 unfold Bfe at h ⊢
 cases h1:k.2.1 != 0 with
 | true=>rw [h1] at h;exact absurd h (bne_iff_ne.1 h1)
 | false =>
  rw [h1] at h
  simp only [cond_false] at h ⊢
  cases h2:Bb3 (W64 (a.mx-k.1.1)) (W64 (a.my-k.1.2.1)) with
  | false=>rw [h2] at h;cases h
  | true =>
   rw [h2] at h
   simp only [Bool.not_true,cond_false] at h ⊢
   cases h3:Bb3 (W64 (b.mx+k.1.1)) (W64 (b.my+k.1.2.1)) with
   | false=>rw [h3] at h;cases h
   | true=>exact ⟨rfl,rfl,rfl,rfl⟩
theorem Clh {l:List (TCT Fq)} {re dr:Int} {i k:Nat} {G:Baj} {s s':SS} (hik:¬ k=i) (h:Bdp l re dr i k s=some s') (hs:SA G s.1):SA G s'.1:=by
 unfold Bdp at h
 cases h1:(Bbm (bAt l s.1 i) (bAt l s.1 k) re dr).2.2.1==0 with
 | true =>
  rw [h1] at h
  simp only [cond_true,Option.some.injEq] at h
  subst h
  obtain ⟨b1,b2,b3,b4⟩:=D04 (a:=bAt l s.1 i) (b:=bAt l s.1 k) (k:=Bqs (bAt l s.1 i) (bAt l s.1 k) re dr) (beq_iff_eq.1 h1)
  have ha:arS (V2 s.1 i) (Bbm (bAt l s.1 i) (bAt l s.1 k) re dr).1:=⟨b1,b2⟩
  have hb:arS (V2 s.1 k) (Bbm (bAt l s.1 i) (bAt l s.1 k) re dr).2.1:=⟨b3,b4⟩
  refine SA.set (SA.set hs ha) ?_
  by_cases hi:i<s.1.length
  ·rw [Bdx hi hik];exact hb
  ·have:Bb7 s.1 i (Bbm (bAt l s.1 i) (bAt l s.1 k) re dr).1=s.1:=by rw [Bbe];exact List.set_eq_of_length_le (Nat.le_of_not_lt hi)
   rw [this];exact hb
 | false =>
  rw [h1,cond_false] at h
  cases h2:(Bbm (bAt l s.1 i) (bAt l s.1 k) re dr).2.2.1==4 with
  | true=>rw [h2] at h;simp at h
  | false=>rw [h2] at h;simp only [cond_false,Option.some.injEq] at h;subst h;exact hs
theorem Cli {l:List (TCT Fq)} {re dr:Int} {i:Nat} {G:Baj}:∀ (f k:Nat) (s s':SS),i<k→V.inR l re dr i f k s=some s'→SA G s.1→SA G s'.1
 | 0,k,s,s',_,h,hs=>by rw [V.inR,Option.some.injEq] at h;subst h;exact hs
 | f+1,k,s,s',hk,h,hs=>by
  rw [V.inR] at h
  cases h1:Bdp l re dr i k s with
  | none=>rw [h1] at h;simp at h
  | some s1 =>
   rw [h1,Option.bind_some] at h
   exact Cli f (k+1) s1 s' (by omega) h (Clh (by omega) h1 hs)
theorem Cam {l:List (TCT Fq)} {re dr:Int} {G:Baj}:∀ (f i:Nat) (s s':SS),Bfr l re dr f i s=some s'→SA G s.1→SA G s'.1
 | 0,i,s,s',h,hs=>by rw [Biz,Option.some.injEq] at h;subst h;exact hs
 | f+1,i,s,s',h,hs=>by
  rw [Bh5] at h
  cases h1:V.inR l re dr i (l.length-(i+1)) (i+1) s with
  | none=>rw [h1] at h;simp at h
  | some s1 =>
   rw [h1,Option.bind_some] at h
   exact Cam f (i+1) s1 s' h (Cli _ _ _ _ (by omega) h1 hs)
theorem Cdn {l:List (TCT Fq)} {s:Baj} {re dr:Int} (h:(Bbr l s re dr).2.2.1=0):SA s (Bbr l s re dr).1:=by
 unfold Bbr at h ⊢
 cases h1:Bjh l s != 0 with
 | true=>rw [h1,cond_true] at h;exact absurd h (bne_iff_ne.1 h1)
 | false =>
  rw [h1,cond_false] at h
  simp only [cond_false]
  cases h2:!Bfj re dr with
  | true=>rw [h2] at h;cases h
  | false =>
   rw [h2,cond_false] at h
   simp only [cond_false]
   cases h3:Bfr l re dr l.length 0 (s,[]) with
   | none=>rw [h3] at h;cases h
   | some s' =>
    have hz:SA s ((s,[]):SS).1:=fun j=>⟨rfl,rfl⟩
    exact Cam _ _ _ _ h3 hz
structure InvH (ms:Baj) (os:List Bool) (n i:Nat) (s:GA):Prop where
 g:InvG n i s
 h:∀ k:Nat,k<s.1.length→V2 s.2.2 k=V2 ms (Int.toNat (Bav s.1 k (Bas cI)))∧Bbu os (Int.toNat (Bav s.1 k (Bas cI)))=false
theorem Bej {α:Type} {d:α} {l:List α} {x:α} {k:Nat} (h:k<l.length+1):Bav (l++[x]) k d=if k=l.length then x else Bav l k d:=by
 rw [Bcv,Bcv,List.getD_eq_getElem?_getD,List.getD_eq_getElem?_getD]
 by_cases e:k=l.length
 ·rw [if_pos e,e,List.getElem?_append_right (Nat.le_refl _),Nat.sub_self];rfl
 ·rw [if_neg e,List.getElem?_append_left (by omega)]
theorem D4z {bl:List (TCT Fq)} {ms:Baj} {os:List Bool} {w fl:Int} {n:Nat} (i:Nat) (s s':GA) (hi:i<n) (h:InvH ms os n i s) (h2:gaE bl ms os w fl i s=.inl s'):InvH ms os n (i+1) s':=by
 have hg:=C6r i s s' hi h.g h2
 refine ⟨hg,?_⟩
 unfold gaE at h2
 cases hc:!Bav os i (Bas .b)&&!Bck w fl i with
 | false=>rw [hc] at h2;cases h2;exact h.h
 | true =>
  rw [hc] at h2
  cases h2
  have hm:=h.g.m
  have ho:Bbu os i=false:=by
   unfold Bbu
   rw [Bool.and_eq_true] at hc
   simpa using hc.1
  intro k hk
  have hk2:k<(s.1++[(i:Int)]).length:=hk
  have hk':k<s.1.length+1:=by rw [List.length_append,List.length_singleton] at hk2;exact hk2
  show Bav (s.2.2++[V2 ms i]) k (Bas Baq)=V2 ms (Int.toNat (Bav (s.1++[(i:Int)]) k (Bas cI)))∧Bbu os (Int.toNat (Bav (s.1++[(i:Int)]) k (Bas cI)))=false
  rw [Bej (by omega),Bej hk']
  by_cases e:k=s.1.length
  ·rw [if_pos e,if_pos (by omega)]
   exact ⟨rfl,ho⟩
  ·rw [if_neg e,if_neg (by omega)]
   exact h.h k (by omega)
theorem Bte {bl:List (TCT Fq)} {ms:Baj} {os:List Bool} {w fl:Int} {n:Nat}:InvH ms os n n (gaV bl w fl n ms os) :=
 Bax (n:=n) (Inv:=InvH ms os n) (fun i s s' hi h h2=>D4z (bl:=bl) (w:=w) (fl:=fl) i s s' hi h h2) n 0 ([],[],[]) _ (by omega) ⟨⟨rfl,rfl,Nat.le_refl _,fun w hw=>nomatch hw⟩,fun k hk=>absurd hk (Nat.not_lt_zero k)⟩ (Bgl (Bat (gaE bl ms os w fl) 0 n ([],[],[])))
structure RK (bl:List (TCT Fq)) (n:Nat) (ms0 ms:Baj) (os:List Bool):Prop where
 q:RQ bl n ms os
 a:∀ j:Nat,(V2 ms j).1=(V2 ms0 j).1
theorem RK.ol {bl:List (TCT Fq)} {l:TCT Bam} {n:Nat} {ms0 ms:Baj} {os:List Bool} (k:RK bl n ms0 ms os) (p:OL l n ms0 os):OL l n ms os:=fun j hj h=>by rw [k.a j];exact p j hj h
theorem RK.set {bl:List (TCT Fq)} {n i:Nat} {ms0 ms:Baj} {os:List Bool} {x:TCT Baq} (k:RK bl n ms0 ms os) (hi:i<n) (hx:Biu (Bc1 bl i) x=true) (ho:Bbu os i=false) (hp:x.1=(V2 ms0 i).1):RK bl n ms0 (Bb7 ms i x) os:=by
 have hm:=k.q.m
 refine ⟨k.q.set hi hx ho,fun j=>?_⟩
 by_cases e:j=i
 ·rw [Bet (by omega) e,hp,e]
 ·rw [Bdx (by omega) e];exact k.a j
theorem Clj {bl:List (TCT Fq)} {c:TCT Bbv} {t st w fl:Int} {n:Nat} {s:S2} {r:Baj×Kns} (h:seF bl c t st w fl n s=.inl r) (q:RQ bl n s.1 s.2.1):RK bl n s.1 r.1 s.2.1:=by
 unfold seF at h
 cases he:(seS bl c w fl n s).2.2.1 != 0 with
 | true=>rw [he] at h;cases h
 | false =>
  rw [he] at h
  cases h
  have e0:=bne_eq_false_iff_eq.1 he
  have hG:InvH s.1 s.2.1 n n (seG bl w fl n s):=Bte
  have hA:SA (seG bl w fl n s).2.2 (seS bl c w fl n s).1:=Cdn e0
  have hS:SM (seS bl c w fl n s).1:=Bx6 e0
  exact Bax (n:=(seG bl w fl n s).1.length) (Inv:=fun _ (x:Baj)=>RK bl n s.1 x s.2.1) (fun k x x' hk hx h2=>by
   cases h2
   obtain ⟨g1,g2⟩:=hG.h k hk
   have hr:=hG.g.r _ (Bdn hk (Bas cI))
   have hj:Int.toNat (Bav (seG bl w fl n s).1 k (Bas cI))<n:=by omega
   have ha:=hA k
   rw [g1] at ha
   exact hx.set hj (Blm (q.ok _ hj) ha (hS k)) g2 ha.1) (seG bl w fl n s).1.length 0 s.1 _ (by omega) ⟨q,fun _=>rfl⟩ (Bgl (Bat (scE (seG bl w fl n s).1 (seS bl c w fl n s).1) 0 (seG bl w fl n s).1.length s.1))
theorem Clk {b:TCT Fq} {m:TCT Baq} {d:TCT Bag} {c:TCT Bbv} (h:(bmV b m d c).2.1=0):Biu b (bmV b m d c).1=true∧(bmV b m d c).1.1=m.1:=by
 unfold bmV C3q at h ⊢
 cases h1:(bm b m).ok&&(Bil d.1.1 d.1.2.1 d.2.1&&Bfj c.1 c.2.1) with
 | false=>rw [h1] at h;cases h
 | true =>
  rw [h1] at h
  simp only [Bool.not_true,cond_false] at h ⊢
  cases h2:Bfd (bm b m).px (bm b m).py d.1.1 d.1.2.1 ((bm b m).r+d.2.1) with
  | false=>rw [h2] at h;cases h
  | true =>
   rw [h2] at h
   simp only [Bool.not_true,cond_false] at h ⊢
   cases h3:decide (dN (bm b m) d.1.1 d.1.2.1≤0) with
   | true=>rw [h3] at h;cases h
   | false =>
    rw [h3] at h
    simp only [cond_false] at h ⊢
    cases h4:Bb3 (W64 ((bm b m).mx-(kK (d.1.1-(bm b m).px) (d.1.2.1-(bm b m).py) (bm b m).mx (bm b m).my c.1 c.2.1 1).1)) (W64 ((bm b m).my-(kK (d.1.1-(bm b m).px) (d.1.2.1-(bm b m).py) (bm b m).mx (bm b m).my c.1 c.2.1 1).2)) with
    | false=>rw [h4] at h;cases h
    | true =>
     simp only [Bool.not_true,cond_false]
     rw [Bool.and_eq_true] at h1
     have hm:Biu b m=true:=h1.1
     exact ⟨Blm hm ⟨rfl,rfl⟩ h4,rfl⟩
theorem D05 {bl:List (TCT Fq)} {c:TCT Bbv} {ps:Dss} {os:List Bool} {w fl t st:Int} {i n k:Nat} {ms0:Baj} {s:MK} (hi:i<n) (q:RK bl n ms0 s.1 os):(∀ s',bpE (Bc1 bl i) c ps os w fl t st i k s=.inl s'→RK bl n ms0 s'.1 os)∧(∀ s',bpE (Bc1 bl i) c ps os w fl t st i k s=.inr (.inl s')→s'=s):=by
 unfold bpE
 cases h1:!Bbo s.1 os i||Bck w fl i with
 | true=>exact ⟨(fun s' h=>by cases h),(fun s' h=>by cases h;rfl)⟩
 | false =>
  rw [Bool.or_eq_false_iff] at h1
  simp only [cond_false]
  cases h2:(bmV (Bc1 bl i) (V2 s.1 i) (Bdh ps k) c).2.1==0 with
  | true =>
   refine ⟨(fun s' h=>?_),(fun s' h=>by cases h)⟩
   cases h
   have b:=Clk (beq_iff_eq.1 h2)
   exact q.set hi b.1 (Bo2 h1.1) (b.2.trans (q.a i))
  | false =>
   simp only [cond_false]
   cases h3:(bmV (Bc1 bl i) (V2 s.1 i) (Bdh ps k) c).2.1==4 with
   | true=>exact ⟨(fun s' h=>by cases h),(fun s' h=>by cases h)⟩
   | false=>exact ⟨(fun s' h=>by cases h;exact q),(fun s' h=>by cases h)⟩
theorem Cll {bl:List (TCT Fq)} {c:TCT Bbv} {ps:Dss} {os:List Bool} {w fl t st:Int} {i n:Nat} {ms0:Baj} (hi:i<n):∀ (j k:Nat) (s s':MK),RK bl n ms0 s.1 os→Bt7 (Bat (bpE (Bc1 bl i) c ps os w fl t st i) k j s)=.inl s'→RK bl n ms0 s'.1 os
 | 0,k,s,s',q,h=>by cases h;exact q
 | j+1,k,s,s',q,h=>by
  unfold Bat at h
  have a:=D05 (c:=c) (ps:=ps) (w:=w) (fl:=fl) (t:=t) (st:=st) (k:=k) hi q
  cases hf:bpE (Bc1 bl i) c ps os w fl t st i k s with
  | inl t1=>rw [hf] at h;exact Cll hi j (k+1) t1 s' (a.1 t1 hf) h
  | inr y =>
   rw [hf] at h
   cases y with
   | inl t1 =>
    have e:=a.2 t1 hf
    subst e
    cases h
    exact q
   | inr e=>cases h
theorem D06 {bl:List (TCT Fq)} {c:TCT Bbv} {ps:Dss} {t st w fl:Int} {n:Nat} {s:S2} {s':MK} (h:buF bl c ps t st w fl n s=.inl s') (q:RQ bl n s.1 s.2.1):RK bl n s.1 s'.1 s.2.1:=by
 unfold buF at h
 exact Bax (n:=n) (Inv:=fun _ (x:MK)=>RK bl n s.1 x.1 s.2.1) (fun i x x' hi hx h2=>Cll hi ps.length 0 x x' hx h2) n 0 (s.1,s.2.2) s' (by omega) ⟨q,fun _=>rfl⟩ h
theorem Clm {k:CT} {i:Nat} {s s':S2} (h:tkE k i s=.inl s') (q:RQ k.bl k.bl.length s.1 s.2.1):RQ k.bl k.bl.length s'.1 s'.2.1∧OL k.l k.bl.length s'.1 s'.2.1:=by
 unfold tkE at h
 cases h1:mvF k.bl k.l k.t ((i+1:Nat):Int) k.bl.length s with
 | inr e=>rw [h1] at h;cases h
 | inl s1 =>
  rw [h1] at h
  simp only at h
  have a:=Clg h1 q
  cases h2:seF k.bl k.c k.t ((i+1:Nat):Int) k.w k.fl k.bl.length s1 with
  | inr e=>rw [h2] at h;cases h
  | inl s2 =>
   rw [h2] at h
   simp only at h
   have b:=Clj h2 a.1
   cases h3:buF k.bl k.c k.ps k.t ((i+1:Nat):Int) k.w k.fl k.bl.length (s2.1,s1.2.1,s2.2) with
   | inr e=>rw [h3] at h;cases h
   | inl s3 =>
    rw [h3] at h
    cases h
    have d:=D06 h3 b.q
    exact ⟨d.q,d.ol (b.ol a.2)⟩
theorem D07 {k:CT} {s s':S2} (h:tkF k s=.inl s') (q:RQ k.bl k.bl.length s.1 s.2.1) (p:OL k.l k.bl.length s.1 s.2.1):RQ k.bl k.bl.length s'.1 s'.2.1∧OL k.l k.bl.length s'.1 s'.2.1:=by
 unfold tkF at h
 cases h0:k.t==4000 with
 | true=>rw [h0] at h;cases h
 | false =>
  rw [h0] at h
  simp only [cond_false] at h
  cases h1:Bat (slE k.l s.2.1 k.w k.fl) 0 k.bl.length s.1 with
  | inr e=>rw [h1] at h;cases h
  | inl ms =>
   rw [h1] at h
   have a:RQ k.bl k.bl.length ms s.2.1∧OL k.l k.bl.length ms s.2.1:=Bax (n:=k.bl.length) (Inv:=fun _ (x:Baj)=>RQ k.bl k.bl.length x s.2.1∧OL k.l k.bl.length x s.2.1) (fun i x x' hi hq h=>C74 hi h hq.1 hq.2) k.bl.length 0 _ _ (by omega) ⟨q,p⟩ h1
   have h2:Bat (tkE k) 0 16 (ms,s.2.1,s.2.2)=.inl s':=h
   exact Bax (n:=16) (Inv:=fun _ (x:S2)=>RQ k.bl k.bl.length x.1 x.2.1∧OL k.l k.bl.length x.1 x.2.1) (fun i x x' _ hq h=>Clm h hq.1) 16 0 (ms,s.2.1,s.2.2) s' (by omega) a h2
theorem Cao {α:Type} {ok:Nat→α→Bool} {d:α}:∀ (l:List α) (i:Nat),(∀ j,j<l.length→ok (i+j) (Bav l j d)=true)→Bfp ok i l=true
 | [],_,_=>rfl
 | x::l,i,h=>by
  unfold Bfp
  rw [Bool.and_eq_true]
  refine ⟨h 0 (by simp),Cao (d:=d) l (i+1) fun j hj=>?_⟩
  have:=h (j+1) (by simpa using hj)
  rw [show i+(j+1)=i+1+j by omega] at this
  exact this
theorem Cap {α:Type} {ok:Nat→α→Bool} {d:α}:∀ (l:List α) (i:Nat),Bfp ok i l=true→∀ j,j<l.length→ok (i+j) (Bav l j d)=true
 | [],_,_,j,hj=>absurd hj (Nat.not_lt_zero j)
 | x::l,i,h,j,hj=>by
  simp only [Bfp,Bool.and_eq_true] at h
  cases j with
  | zero=>exact h.1
  | succ j =>
   have:=Cap (d:=d) l (i+1) h.2 j (by simpa using hj)
   rw [show i+(j+1)=i+1+j by omega]
   exact this
theorem Bmw {g:TCT cGr} {s:TCT cSt} (h:StaOk g s):RQ (Fp g) (Fp g).length (msT s) (osT s)∧OL g.1 (Fp g).length (msT s) (osT s):=by
 have hm:=h.m
 have key:∀ j,j<(Fp g).length→okO g.1 (Bc1 (Fp g) j) (Bbu (osT s) j) (V2 (msT s) j)=true:=fun j hj=>by
  have:=Cap (d:=Bas Baq) (msT s) 0 h.ok j (by omega)
  rw [Nat.zero_add] at this
  exact this
 refine ⟨⟨h.m,h.o,fun j hj=>?_,fun j hj e=>?_⟩,fun j hj e=>?_⟩
 ·have:=key j hj
  unfold okO at this
  rw [Bool.and_eq_true] at this
  exact this.1
 ·have:=key j hj
  unfold okO at this
  rw [e,Bool.and_eq_true,cond_true,Bool.and_true] at this
  exact this.2
 ·have:=key j hj
  unfold okO at this
  rw [e,Bool.and_eq_true,cond_false] at this
  exact this.2
theorem Btf {g:TCT cGr} {s:TCT cSt} (hg:groE g=0) (n1:1≤(Fp g).length) (n8:(Fp g).length≤8) (q:RQ (Fp g) (Fp g).length (msT s) (osT s)) (p:OL g.1 (Fp g).length (msT s) (osT s)) (hn:Bvx (Fp g).length s=false):StaOk g s:=by
 have hm:=q.m
 refine ⟨hg,n1,n8,q.m,q.o,Cao (d:=Bas Baq) (msT s) 0 fun j hj=>?_,hn⟩
 rw [Nat.zero_add]
 show okO g.1 (Bc1 (Fp g) j) (Bbu (osT s) j) (V2 (msT s) j)=true
 unfold okO
 rw [q.ok j (by omega),Bool.true_and]
 cases e:Bbu (osT s) j with
 | true=>rw [cond_true,Bool.and_true];exact q.z j (by omega) e
 | false=>rw [cond_false];exact p j (by omega) e
end St
end V
end Go.Proofs.YtcfanlgpkefogaaGreat
namespace Go.Proofs.YtcfanlgpkefogaaGreat
open Go.RowKit
namespace V
namespace St
def a2 (ks:Kns) (s:S2):S2:=(s.1,s.2.1,ks++s.2.2)
def nxS (s:TCT cSt) (r:S2):TCT cSt:=(r.1,r.2.1,s.2.2.1,max 0 (W64 (s.2.2.2.1-1)),W64 (s.2.2.2.2.1+1),())
theorem D08 {n a b c:Int} (h1:0≤a∧a<n) (h2:0≤b∧b≤8) (h3:0≤c∧c≤4000):(decide (a<0)||(decide (a≥n)||(decide (b<0)||(decide (b>8)||(decide (c<0)||decide (c>4000))))))=false:=by
 simp only [Bool.or_eq_false_iff,decide_eq_false_iff_not]
 omega
theorem D09 {n a b c:Int} (h:(decide (a<0)||(decide (a≥n)||(decide (b<0)||(decide (b>8)||(decide (c<0)||decide (c>4000))))))=false):(0≤a∧a<n)∧(0≤b∧b≤8)∧(0≤c∧c≤4000):=by
 simp only [Bool.or_eq_false_iff,decide_eq_false_iff_not] at h
 omega
theorem D0a {b c:Int} (h2:0≤b∧b≤8) (h3:0≤c∧c≤4000) (h4:¬ c=4000):(0≤max 0 (W64 (b-1))∧max 0 (W64 (b-1))≤8)∧(0≤W64 (c+1)∧W64 (c+1)≤4000):=by
 rw [Bbb (n:=b-1) (by omega) (by omega),Bbb (n:=c+1) (by omega) (by omega)]
 omega
theorem Btg {g:TCT cGr} {s:TCT cSt} {ks:Kns} {r:S2} (h:StaOk g s) (ht:tkF (ctS g s) (msT s,osT s,ks)=.inl r):StaOk g (nxS s r):=by
 have a:=Bmw h
 have b:=D07 (k:=ctS g s) (s:=(msT s,osT s,ks)) ht a.1 a.2
 have hn:(0≤s.2.2.1∧s.2.2.1<((Fp g).length:Int))∧(0≤s.2.2.2.1∧s.2.2.2.1≤8)∧(0≤s.2.2.2.2.1∧s.2.2.2.2.1≤4000):=D09 h.num
 have h4:¬ s.2.2.2.2.1=4000:=by
  intro e
  unfold tkF at ht
  rw [show ((ctS g s).t==4000)=true from beq_iff_eq.2 e] at ht
  cases ht
 have c:=D0a hn.2.1 hn.2.2 h4
 exact Btf h.gr h.n1 h.n8 b.1 b.2 (D08 hn.1 c.1 c.2)
end St
end V
end Go.Proofs.YtcfanlgpkefogaaGreat
namespace Go.Proofs.YtcfanlgpkefogaaGreat
open Go.RowKit
namespace V
namespace St
theorem D0b {g:TCT cGr} {s:TCT cSt} (h:StaOk g s):Bih g s=0:=by
 unfold Bih vaE
 have e:Bvy g s=true:=by
  unfold Bvy
  rw [h.m,h.o,beq_self_eq_true];rfl
 rw [h.gr,e,h.ok,h.num];rfl
theorem Cln {g:TCT cGr} {s:TCT cSt} (h:StaOk g s):(Bih g s != 0)=false:=by rw [D0b h];rfl
end St
end V
end Go.Proofs.YtcfanlgpkefogaaGreat
