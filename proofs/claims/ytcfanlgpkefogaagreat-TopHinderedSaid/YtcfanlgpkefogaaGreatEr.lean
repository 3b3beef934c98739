import Derived.Test.YtcfanlgpkefogaaGreatDw
namespace Go.Proofs.YtcfanlgpkefogaaGreat
open Go.RowKit
namespace V
namespace St
theorem Bjm {α:Type} {d:α} {l:List α} {i j:Nat} {x:α} (hi:i<l.length):Bam (Bba l i x) j d=if j=i then x else Bam l j d:=by
 rw [Bbl,Bda,Bda,List.getD_eq_getElem?_getD,List.getD_eq_getElem?_getD,List.getElem?_set]
 by_cases h:i=j
 ·subst h
  rw [if_pos rfl,if_pos hi,if_pos rfl];rfl
 ·rw [if_neg h,if_neg (fun e=>h e.symm)]
theorem Ber {l:Bal} {i j:Nat} {x:TCT Bat} (hi:i<l.length) (h:j=i):Bag (Bba l i x) j=x:=by unfold Bag;rw [Bjm hi,if_pos h]
theorem Bed {l:Bal} {i j:Nat} {x:TCT Bat} (hi:i<l.length) (h:¬ j=i):Bag (Bba l i x) j=Bag l j:=by unfold Bag;rw [Bjm hi,if_neg h]
def Bbs (os:List Bool) (i:Nat):Bool:=Bam os i (Baj .b)
theorem Ceh {l:List Bool} {i j:Nat} {x:Bool} (hi:i<l.length) (h:j=i):Bbs (Bba l i x) j=x:=by unfold Bbs;rw [Bjm hi,if_pos h]
theorem C1l {l:List Bool} {i j:Nat} {x:Bool} (hi:i<l.length) (h:¬ j=i):Bbs (Bba l i x) j=Bbs l j:=by unfold Bbs;rw [Bjm hi,if_neg h]
def arS (m m':TCT Bat):Prop:=m'.1=m.1∧m'.2.2.1=m.2.2.1
theorem Bml {b:TCT No} {m m':TCT Bat} (h:Bk7 b m=true) (ha:arS m m') (hs:smB m'=true):Bk7 b m'=true:=by
 unfold Bk7 Bo1 at h ⊢
 simp only [Bool.and_eq_true] at h ⊢
 rw [ha.1,ha.2]
 exact ⟨h.1,h.2.1,hs,h.2.2.2⟩
structure RQ (bl:List (TCT No)) (n:Nat) (ms:Bal) (os:List Bool):Prop where
 m:ms.length=n
 o:os.length=n
 ok:∀ j,j<n→Bk7 (Bch bl j) (Bag ms j)=true
 z:∀ j,j<n→Bbs os j=true→Bf0 (Bag ms j)=true
def OL (l:TCT Ban) (n:Nat) (ms:Bal) (os:List Bool):Prop:=∀ j,j<n→Bbs os j=false→onB l (Bag ms j).1=true
theorem Bp6 {ms:Bal} {os:List Bool} {i:Nat} (h:(!Bbu ms os i)=false):Bbs os i=false:=by
 unfold Bbu at h
 unfold Bbs
 cases ho:Bam os i (Baj .b) with
 | false=>rfl
 | true=>rw [ho] at h;cases h
theorem RQ.set {bl:List (TCT No)} {n i:Nat} {ms:Bal} {os:List Bool} {x:TCT Bat} (q:RQ bl n ms os) (hi:i<n) (hx:Bk7 (Bch bl i) x=true) (ho:Bbs os i=false):RQ bl n (Bba ms i x) os:=by
 have hm:=q.m
 refine ⟨(Bbd _ _ _).trans hm,q.o,fun j hj=>?_,fun j hj h=>?_⟩
 ·by_cases e:j=i
  ·rw [Ber (by omega) e,e];exact hx
  ·rw [Bed (by omega) e];exact q.ok j hj
 ·by_cases e:j=i
  ·rw [e,ho] at h;cases h
  ·rw [Bed (by omega) e];exact q.z j hj h
theorem OL.set {l:TCT Ban} {n i:Nat} {ms:Bal} {os:List Bool} {x:TCT Bat} (q:OL l n ms os) (hm:ms.length=n) (hi:i<n) (hx:x.1=(Bag ms i).1):OL l n (Bba ms i x) os:=fun j hj h=>by
 by_cases e:j=i
 ·rw [Ber (by omega) e,hx,← e];exact q j hj h
 ·rw [Bed (by omega) e];exact q j hj h
theorem Cxq {p n A:Int} (hn:0<n) (h1 : -(A*n)≤p) (h2:p≤A*n) : -A≤Int.tdiv p n∧Int.tdiv p n≤A:=by
 have key:∀ q:Int,0≤q→q≤A*n→0≤q / n∧q / n≤A:=fun q h0 h=>by
  refine ⟨Int.ediv_nonneg h0 (by omega),?_⟩
  have:q / n<A+1:=Int.ediv_lt_of_lt_mul hn (by rw [Int.add_mul,Int.one_mul];omega)
  omega
 by_cases hp:0≤p
 ·rw [Int.tdiv_eq_ediv_of_nonneg hp]
  have:=key p hp h2
  omega
 ·have e:p = -(-p):=by omega
  rw [e,Int.neg_tdiv,Int.tdiv_eq_ediv_of_nonneg (show 0 ≤ -p by omega)]
  have:=key (-p) (by omega) (by omega)
  omega
theorem C5d {x a n A:Int} (hx : -A≤x∧x≤A) (hA:0≤A) (ha:0≤a∧a≤n) (hn:0<n) : -A≤Int.tdiv (x*a) n∧Int.tdiv (x*a) n≤A:=by
 have h1:x*a≤A*a:=Int.mul_le_mul_of_nonneg_right hx.2 ha.1
 have h2:(-A)*a≤x*a:=Int.mul_le_mul_of_nonneg_right hx.1 ha.1
 have h3:A*a≤A*n:=Int.mul_le_mul_of_nonneg_left ha.2 hA
 rw [Int.neg_mul] at h2
 exact Cxq hn (by omega) (by omega)
theorem Bv0 {x y:Int} (hx : -16777216≤x∧x≤16777216) (hy : -16777216≤y∧y≤16777216):Bb3 x y=true:=by
 unfold Bb3 Bb8
 rw [decide_eq_false (show ¬ x < -16777216 by omega),decide_eq_false (show ¬ 16777216<x by omega),decide_eq_false (show ¬ y < -16777216 by omega),decide_eq_false (show ¬ 16777216<y by omega)]
 rfl
theorem Be2 {x y:Int} (h:Bb3 x y=true):(-16777216≤x∧x≤16777216)∧(-16777216≤y∧y≤16777216):=by
 unfold Bb3 at h
 simp only [Bool.and_eq_true,Bool.not_eq_true'] at h
 exact ⟨Bcj h.1,Bcj h.2⟩
theorem C5e {x y l:Int} (h:(Bhf x y l).2.1=0):Bb3 (Bhf x y l).1.1 (Bhf x y l).1.2.1=true:=by
 unfold Bhf at h ⊢
 cases h1:Bb3 x y with
 | false=>rw [h1] at h;cases h
 | true =>
  rw [h1] at h
  simp only [Bool.not_true,cond_false] at h ⊢
  cases h2:Bb8 l 0 33554432 with
  | true=>rw [h2] at h;cases h
  | false =>
   rw [h2] at h
   simp only [cond_false] at h ⊢
   cases h3:decide (slN x y≤8*l) with
   | true=>rfl
   | false =>
    have b:=Be2 h1
    have c:=Bcj h2
    have d:=of_decide_eq_false h3
    simp only [cond_false]
    exact Bv0 (C5d b.1 (by omega) ⟨by omega,by omega⟩ (by omega)) (C5d b.2 (by omega) ⟨by omega,by omega⟩ (by omega))
theorem Cps {l:TCT Ban} {bl:List (TCT No)} {os:List Bool} {w fl:Int} {i n:Nat} {ms ms':Bal} (hi:i<n) (h:slE l os w fl i ms=.inl ms') (q:RQ bl n ms os) (p:OL l n ms os):RQ bl n ms' os∧OL l n ms' os:=by
 unfold slE at h
 cases h1:!Bbu ms os i||Bdb w fl i with
 | true=>rw [h1] at h;cases h;exact ⟨q,p⟩
 | false =>
  rw [h1] at h
  rw [Bool.or_eq_false_iff] at h1
  cases h2:Be9 l (Bag ms i).1 != 0 with
  | true=>rw [h2] at h;cases h
  | false =>
   rw [h2] at h
   cases h3:(Bi9 l (Bag ms i)).2.1 != 0 with
   | true=>rw [h3] at h;cases h
   | false =>
    rw [h3] at h
    cases h
    have hs:smB (C4p l (Bag ms i))=true:=C5e (bne_eq_false_iff_eq.1 h3)
    exact ⟨q.set hi (Bml (q.ok i hi) ⟨rfl,rfl⟩ hs) (Bp6 h1.1),p.set q.m hi rfl⟩
theorem D2i (n m:Int) (hm:1≤m) : -(32*m)≤DR n (64*m)∧DR n (64*m)≤32*m-1:=by
 unfold DR DW
 have a:=Int.ediv_mul_le (2*n+64*m) (show 2*(64*m)≠0 by omega)
 have b:=Int.lt_ediv_add_one_mul_self (2*n+64*m) (show 0<2*(64*m) by omega)
 generalize (2*n+64*m) / (2*(64*m))=w at a b
 rw [Int.add_mul,Int.one_mul] at b
 have e:w*(2*(64*m))=2*(w*(64*m)):=by grind
 rw [e] at a b
 omega
theorem Ca7 {x lo hi:Int} (h:lo≤x∧x≤hi):Bb8 x lo hi=false:=by
 unfold Bb8
 rw [decide_eq_false (show ¬ x<lo by omega),decide_eq_false (show ¬ hi<x by omega)];rfl
theorem Cpt {b:TCT No} {m:TCT Bat} (h:(Bhe (bm b m)).2.1=0):Bk7 b (Bhe (bm b m)).1=true:=by
 unfold Bhe at h ⊢
 cases h1:(bm b m).ok with
 | false=>rw [h1] at h;cases h
 | true =>
  rw [h1] at h
  simp only [Bool.not_true,cond_false] at h ⊢
  cases h2:fpt (sX (bm b m)) (sY (bm b m)) with
  | false=>rw [h2] at h;cases h
  | true =>
   simp only [Bool.not_true,cond_false]
   have f:=Bm.fit h1
   unfold Bm.ok Bo1 at h1
   simp only [Bool.and_eq_true] at h1
   unfold Bk7 Bo1
   simp only [Bool.and_eq_true,Bool.not_eq_true']
   have hm:1≤b.1:=Int.le_trans (by decide) f.m1
   exact ⟨h1.1,h2,h1.2.2.1,Ca7 (D2i _ b.1 hm),Ca7 (D2i _ b.1 hm)⟩
theorem Cpu {bl:List (TCT No)} {os:List Bool} {i n:Nat} {ms ms':Bal} (hi:i<n) (h:stE bl os i ms=.inl ms') (q:RQ bl n ms os):RQ bl n ms' os:=by
 unfold stE at h
 cases h1:!Bbu ms os i with
 | true=>rw [h1] at h;cases h;exact q
 | false =>
  rw [h1] at h
  cases h3:(Bja (Bch bl i) (Bag ms i)).2.1 != 0 with
  | true=>rw [h3] at h;cases h
  | false =>
   rw [h3] at h
   cases h
   exact q.set hi (Cpt (bne_eq_false_iff_eq.1 h3)) (Bp6 h1)
theorem D65 {l:TCT Ban} {bl:List (TCT No)} {t st:Int} {i n:Nat} {s s':S2} (hi:i<n) (h:lvE l t st i s=.inl s') (q:RQ bl n s.1 s.2.1) (p:OL l i s.1 s.2.1):RQ bl n s'.1 s'.2.1∧OL l (i+1) s'.1 s'.2.1:=by
 have hm:=q.m
 have ho:=q.o
 unfold lvE at h
 cases h1:Bam s.2.1 i (Baj .b) with
 | true =>
  rw [h1] at h
  cases h
  refine ⟨q,fun j hj e=>?_⟩
  by_cases k:j=i
  ·rw [k] at e;unfold Bbs at e;rw [h1] at e;cases e
  ·exact p j (by omega) e
 | false =>
  rw [h1] at h
  cases h2:onB l (Bag s.1 i).1 with
  | true =>
   rw [h2] at h
   cases h
   refine ⟨q,fun j hj e=>?_⟩
   by_cases k:j=i
   ·rw [k];exact h2
   ·exact p j (by omega) e
  | false =>
   rw [h2] at h
   cases h
   refine ⟨⟨(Bbd _ _ _).trans hm,(Bbd _ _ _).trans ho,fun j hj=>?_,fun j hj e=>?_⟩,fun j hj e=>?_⟩
   ·by_cases k:j=i
    ·rw [Ber (by omega) k,k]
     exact Bml (q.ok i hi) ⟨rfl,rfl⟩ rfl
    ·rw [Bed (by omega) k];exact q.ok j hj
   ·by_cases k:j=i
    ·rw [Ber (by omega) k];rfl
    ·rw [C1l (by omega) k] at e
     rw [Bed (by omega) k];exact q.z j hj e
   ·by_cases k:j=i
    ·rw [Ceh (by omega) k] at e;cases e
    ·rw [C1l (by omega) k] at e
     rw [Bed (by omega) k];exact p j (by omega) e
theorem Cpv {bl:List (TCT No)} {l:TCT Ban} {t st:Int} {n:Nat} {s s':S2} (h:mvF bl l t st n s=.inl s') (q:RQ bl n s.1 s.2.1):RQ bl n s'.1 s'.2.1∧OL l n s'.1 s'.2.1:=by
 unfold mvF at h
 cases h1:Bap (stE bl s.2.1) 0 n s.1 with
 | inr e=>rw [h1] at h;cases h
 | inl ms =>
  rw [h1] at h
  have a:RQ bl n ms s.2.1:=Bay (n:=n) (Inv:=fun _ (x:Bal)=>RQ bl n x s.2.1) (fun i x x' hi hq h=>Cpu hi h hq) n 0 _ _ (by omega) q h1
  have h2:Bap (lvE l t st) 0 n (ms,s.2.1,s.2.2)=.inl s':=h
  exact Bay (n:=n) (Inv:=fun i (x:S2)=>RQ bl n x.1 x.2.1∧OL l i x.1 x.2.1) (fun i x x' hi hq h=>D65 hi h hq.1 hq.2) n 0 (ms,s.2.1,s.2.2) s' (by omega) ⟨a,fun j hj=>absurd hj (Nat.not_lt_zero j)⟩ h2
end St
end V
end Go.Proofs.YtcfanlgpkefogaaGreat
namespace Go.Proofs.YtcfanlgpkefogaaGreat
open Go.RowKit
namespace V
namespace St
def SA (G M:Bal):Prop:=∀ j:Nat,arS (Bag G j) (Bag M j)
theorem SA.set {G M:Bal} {i:Nat} {x:TCT Bat} (h:SA G M) (hx:arS (Bag M i) x):SA G (Bba M i x):=fun j=>by
 by_cases hi:i<M.length
 ·by_cases e:j=i
  ·rw [Ber hi e,e]
   exact ⟨hx.1.trans (h i).1,hx.2.trans (h i).2⟩
  ·rw [Bed hi e];exact h j
 ·have:Bba M i x=M:=by rw [Bbl];exact List.set_eq_of_length_le (Nat.le_of_not_lt hi)
  rw [this];exact h j
theorem D66 {a b:Bm} {k:Bky} (h:(Bf9 a b k).2.2.1=0):(Bf9 a b k).1.1=(a.px,a.py,())∧(Bf9 a b k).1.2.2.1=(a.rx,a.ry,())∧(Bf9 a b k).2.1.1=(b.px,b.py,())∧(Bf9 a b k).2.1.2.2.1=(b.rx,b.ry,()):=by
 unfold Bf9 at h ⊢
 cases h1:k.2.1 != 0 with
 | true=>rw [h1] at h;exact absurd h (bne_iff_ne.1 h1)
 | false =>
  rw [h1] at h
  simp only [cond_false] at h ⊢
  cases h2:Bb3 (W64 (a.mx-k.1.1)) (W64 (a.my-k.1.2.1)) with
  | false=>rw [h2] at h;cases h
  | true =>
   rw [h2] at h
   simp only [Bool.not_true,cond_false] at h ⊢
   cases h3:Bb3 (W64 (b.mx+k.1.1)) (W64 (b.my+k.1.2.1)) with
   | false=>rw [h3] at h;cases h
   | true=>exact ⟨rfl,rfl,rfl,rfl⟩
theorem Cpw {l:List (TCT No)} {re dr:Int} {i k:Nat} {G:Bal} {s s':SS} (hik:¬ k=i) (h:Bds l re dr i k s=some s') (hs:SA G s.1):SA G s'.1:=by
 unfold Bds at h
 cases h1:(Bbi (bAt l s.1 i) (bAt l s.1 k) re dr).2.2.1==0 with
 | true =>
  rw [h1] at h
  simp only [cond_true,Option.some.injEq] at h
  subst h
  obtain ⟨b1,b2,b3,b4⟩:=D66 (a:=bAt l s.1 i) (b:=bAt l s.1 k) (k:=Bln (bAt l s.1 i) (bAt l s.1 k) re dr) (beq_iff_eq.1 h1)
  have ha:arS (Bag s.1 i) (Bbi (bAt l s.1 i) (bAt l s.1 k) re dr).1:=⟨b1,b2⟩
  have hb:arS (Bag s.1 k) (Bbi (bAt l s.1 i) (bAt l s.1 k) re dr).2.1:=⟨b3,b4⟩
  refine SA.set (SA.set hs ha) ?_
  by_cases hi:i<s.1.length
  ·rw [Bed hi hik];exact hb
  ·have:Bba s.1 i (Bbi (bAt l s.1 i) (bAt l s.1 k) re dr).1=s.1:=by rw [Bbl];exact List.set_eq_of_length_le (Nat.le_of_not_lt hi)
   rw [this];exact hb
 | false =>
  rw [h1,cond_false] at h
  cases h2:(Bbi (bAt l s.1 i) (bAt l s.1 k) re dr).2.2.1==4 with
  | true=>rw [h2] at h;simp at h
  | false=>rw [h2] at h;simp only [cond_false,Option.some.injEq] at h;subst h;exact hs
theorem Cpx {l:List (TCT No)} {re dr:Int} {i:Nat} {G:Bal}:∀ (f k:Nat) (s s':SS),i<k→V.inR l re dr i f k s=some s'→SA G s.1→SA G s'.1
 | 0,k,s,s',_,h,hs=>by rw [V.inR,Option.some.injEq] at h;subst h;exact hs
 | f+1,k,s,s',hk,h,hs=>by
  rw [V.inR] at h
  cases h1:Bds l re dr i k s with
  | none=>rw [h1] at h;simp at h
  | some s1 =>
   rw [h1,Option.bind_some] at h
   exact Cpx f (k+1) s1 s' (by omega) h (Cpw (by omega) h1 hs)
theorem Cei {l:List (TCT No)} {re dr:Int} {G:Bal}:∀ (f i:Nat) (s s':SS),Bfk l re dr f i s=some s'→SA G s.1→SA G s'.1
 | 0,i,s,s',h,hs=>by rw [Bjp,Option.some.injEq] at h;subst h;exact hs
 | f+1,i,s,s',h,hs=>by
  rw [Bhu] at h
  cases h1:V.inR l re dr i (l.length-(i+1)) (i+1) s with
  | none=>rw [h1] at h;simp at h
  | some s1 =>
   rw [h1,Option.bind_some] at h
   exact Cei f (i+1) s1 s' h (Cpx _ _ _ _ (by omega) h1 hs)
theorem Cho {l:List (TCT No)} {s:Bal} {re dr:Int} (h:(Bbn l s re dr).2.2.1=0):SA s (Bbn l s re dr).1:=by
 unfold Bbn at h ⊢
 cases h1:Bjd l s != 0 with
 | true=>rw [h1,cond_true] at h;exact absurd h (bne_iff_ne.1 h1)
 | false =>
  rw [h1,cond_false] at h
  simp only [cond_false]
  cases h2:!Be3 re dr with
  | true=>rw [h2] at h;cases h
  | false =>
   rw [h2,cond_false] at h
   simp only [cond_false]
   cases h3:Bfk l re dr l.length 0 (s,[]) with
   | none=>rw [h3] at h;cases h
   | some s' =>
    have hz:SA s ((s,[]):SS).1:=fun j=>⟨rfl,rfl⟩
    exact Cei _ _ _ _ h3 hz
structure InvH (ms:Bal) (os:List Bool) (n i:Nat) (s:GA):Prop where
 g:InvG n i s
 h:∀ k:Nat,k<s.1.length→Bag s.2.2 k=Bag ms (Int.toNat (Bam s.1 k (Baj cI)))∧Bbs os (Int.toNat (Bam s.1 k (Baj cI)))=false
theorem Bej {α:Type} {d:α} {l:List α} {x:α} {k:Nat} (h:k<l.length+1):Bam (l++[x]) k d=if k=l.length then x else Bam l k d:=by
 rw [Bda,Bda,List.getD_eq_getElem?_getD,List.getD_eq_getElem?_getD]
 by_cases e:k=l.length
 ·rw [if_pos e,e,List.getElem?_append_right (Nat.le_refl _),Nat.sub_self];rfl
 ·rw [if_neg e,List.getElem?_append_left (by omega)]
theorem Dbr {bl:List (TCT No)} {ms:Bal} {os:List Bool} {w fl:Int} {n:Nat} (i:Nat) (s s':GA) (hi:i<n) (h:InvH ms os n i s) (h2:gaE bl ms os w fl i s=.inl s'):InvH ms os n (i+1) s':=by
 have hg:=C9t i s s' hi h.g h2
 refine ⟨hg,?_⟩
 unfold gaE at h2
 cases hc:!Bam os i (Baj .b)&&!Bdb w fl i with
 | false=>rw [hc] at h2;cases h2;exact h.h
 | true =>
  rw [hc] at h2
  cases h2
  have hm:=h.g.m
  have ho:Bbs os i=false:=by
   unfold Bbs
   rw [Bool.and_eq_true] at hc
   simpa using hc.1
  intro k hk
  have hk2:k<(s.1++[(i:Int)]).length:=hk
  have hk':k<s.1.length+1:=by rw [List.length_append,List.length_singleton] at hk2;exact hk2
  show Bam (s.2.2++[Bag ms i]) k (Baj Bat)=Bag ms (Int.toNat (Bam (s.1++[(i:Int)]) k (Baj cI)))∧Bbs os (Int.toNat (Bam (s.1++[(i:Int)]) k (Baj cI)))=false
  rw [Bej (by omega),Bej hk']
  by_cases e:k=s.1.length
  ·rw [if_pos e,if_pos (by omega)]
   exact ⟨rfl,ho⟩
  ·rw [if_neg e,if_neg (by omega)]
   exact h.h k (by omega)
theorem Bv1 {bl:List (TCT No)} {ms:Bal} {os:List Bool} {w fl:Int} {n:Nat}:InvH ms os n n (gaV bl w fl n ms os) :=
 Bay (n:=n) (Inv:=InvH ms os n) (fun i s s' hi h h2=>Dbr (bl:=bl) (w:=w) (fl:=fl) i s s' hi h h2) n 0 ([],[],[]) _ (by omega) ⟨⟨rfl,rfl,Nat.le_refl _,fun w hw=>nomatch hw⟩,fun k hk=>absurd hk (Nat.not_lt_zero k)⟩ (Bgh (Bap (gaE bl ms os w fl) 0 n ([],[],[])))
structure RK (bl:List (TCT No)) (n:Nat) (ms0 ms:Bal) (os:List Bool):Prop where
 q:RQ bl n ms os
 a:∀ j:Nat,(Bag ms j).1=(Bag ms0 j).1
theorem RK.ol {bl:List (TCT No)} {l:TCT Ban} {n:Nat} {ms0 ms:Bal} {os:List Bool} (k:RK bl n ms0 ms os) (p:OL l n ms0 os):OL l n ms os:=fun j hj h=>by rw [k.a j];exact p j hj h
theorem RK.set {bl:List (TCT No)} {n i:Nat} {ms0 ms:Bal} {os:List Bool} {x:TCT Bat} (k:RK bl n ms0 ms os) (hi:i<n) (hx:Bk7 (Bch bl i) x=true) (ho:Bbs os i=false) (hp:x.1=(Bag ms0 i).1):RK bl n ms0 (Bba ms i x) os:=by
 have hm:=k.q.m
 refine ⟨k.q.set hi hx ho,fun j=>?_⟩
 by_cases e:j=i
 ·rw [Ber (by omega) e,hp,e]
 ·rw [Bed (by omega) e];exact k.a j
theorem Cpy {bl:List (TCT No)} {c:TCT Bbv} {t st w fl:Int} {n:Nat} {s:S2} {r:Bal×Kns} (h:seF bl c t st w fl n s=.inl r) (q:RQ bl n s.1 s.2.1):RK bl n s.1 r.1 s.2.1:=by
 unfold seF at h
 cases he:(seS bl c w fl n s).2.2.1 != 0 with
 | true=>rw [he] at h;cases h
 | false =>
  rw [he] at h
  cases h
  have e0:=bne_eq_false_iff_eq.1 he
  have hG:InvH s.1 s.2.1 n n (seG bl w fl n s):=Bv1
  have hA:SA (seG bl w fl n s).2.2 (seS bl c w fl n s).1:=Cho e0
  have hS:SM (seS bl c w fl n s).1:=Byy e0
  exact Bay (n:=(seG bl w fl n s).1.length) (Inv:=fun _ (x:Bal)=>RK bl n s.1 x s.2.1) (fun k x x' hk hx h2=>by
   cases h2
   obtain ⟨g1,g2⟩:=hG.h k hk
   have hr:=hG.g.r _ (Bcl hk (Baj cI))
   have hj:Int.toNat (Bam (seG bl w fl n s).1 k (Baj cI))<n:=by omega
   have ha:=hA k
   rw [g1] at ha
   exact hx.set hj (Bml (q.ok _ hj) ha (hS k)) g2 ha.1) (seG bl w fl n s).1.length 0 s.1 _ (by omega) ⟨q,fun _=>rfl⟩ (Bgh (Bap (scE (seG bl w fl n s).1 (seS bl c w fl n s).1) 0 (seG bl w fl n s).1.length s.1))
theorem Cpz {b:TCT No} {m:TCT Bat} {d:TCT Baf} {c:TCT Bbv} (h:(bmV b m d c).2.1=0):Bk7 b (bmV b m d c).1=true∧(bmV b m d c).1.1=m.1:=by
 unfold bmV Bs4 at h ⊢
 cases h1:(bm b m).ok&&(Bh9 d.1.1 d.1.2.1 d.2.1&&Be3 c.1 c.2.1) with
 | false=>rw [h1] at h;cases h
 | true =>
  rw [h1] at h
  simp only [Bool.not_true,cond_false] at h ⊢
  cases h2:Bcv (bm b m).px (bm b m).py d.1.1 d.1.2.1 ((bm b m).r+d.2.1) with
  | false=>rw [h2] at h;cases h
  | true =>
   rw [h2] at h
   simp only [Bool.not_true,cond_false] at h ⊢
   cases h3:decide (dN (bm b m) d.1.1 d.1.2.1≤0) with
   | true=>rw [h3] at h;cases h
   | false =>
    rw [h3] at h
    simp only [cond_false] at h ⊢
    cases h4:Bb3 (W64 ((bm b m).mx-(kK (d.1.1-(bm b m).px) (d.1.2.1-(bm b m).py) (bm b m).mx (bm b m).my c.1 c.2.1 1).1)) (W64 ((bm b m).my-(kK (d.1.1-(bm b m).px) (d.1.2.1-(bm b m).py) (bm b m).mx (bm b m).my c.1 c.2.1 1).2)) with
    | false=>rw [h4] at h;cases h
    | true =>
     simp only [Bool.not_true,cond_false]
     rw [Bool.and_eq_true] at h1
     have hm:Bk7 b m=true:=h1.1
     exact ⟨Bml hm ⟨rfl,rfl⟩ h4,rfl⟩
theorem D67 {bl:List (TCT No)} {c:TCT Bbv} {ps:Dss} {os:List Bool} {w fl t st:Int} {i n k:Nat} {ms0:Bal} {s:MK} (hi:i<n) (q:RK bl n ms0 s.1 os):(∀ s',bpE (Bch bl i) c ps os w fl t st i k s=.inl s'→RK bl n ms0 s'.1 os)∧(∀ s',bpE (Bch bl i) c ps os w fl t st i k s=.inr (.inl s')→s'=s):=by
 unfold bpE
 cases h1:!Bbu s.1 os i||Bdb w fl i with
 | true=>exact ⟨(fun s' h=>by cases h),(fun s' h=>by cases h;rfl)⟩
 | false =>
  rw [Bool.or_eq_false_iff] at h1
  simp only [cond_false]
  cases h2:(bmV (Bch bl i) (Bag s.1 i) (Bd3 ps k) c).2.1==0 with
  | true =>
   refine ⟨(fun s' h=>?_),(fun s' h=>by cases h)⟩
   cases h
   have b:=Cpz (beq_iff_eq.1 h2)
   exact q.set hi b.1 (Bp6 h1.1) (b.2.trans (q.a i))
  | false =>
   simp only [cond_false]
   cases h3:(bmV (Bch bl i) (Bag s.1 i) (Bd3 ps k) c).2.1==4 with
   | true=>exact ⟨(fun s' h=>by cases h),(fun s' h=>by cases h)⟩
   | false=>exact ⟨(fun s' h=>by cases h;exact q),(fun s' h=>by cases h)⟩
theorem Cq0 {bl:List (TCT No)} {c:TCT Bbv} {ps:Dss} {os:List Bool} {w fl t st:Int} {i n:Nat} {ms0:Bal} (hi:i<n):∀ (j k:Nat) (s s':MK),RK bl n ms0 s.1 os→Bsr (Bap (bpE (Bch bl i) c ps os w fl t st i) k j s)=.inl s'→RK bl n ms0 s'.1 os
 | 0,k,s,s',q,h=>by cases h;exact q
 | j+1,k,s,s',q,h=>by
  unfold Bap at h
  have a:=D67 (c:=c) (ps:=ps) (w:=w) (fl:=fl) (t:=t) (st:=st) (k:=k) hi q
  cases hf:bpE (Bch bl i) c ps os w fl t st i k s with
  | inl t1=>rw [hf] at h;exact Cq0 hi j (k+1) t1 s' (a.1 t1 hf) h
  | inr y =>
   rw [hf] at h
   cases y with
   | inl t1 =>
    have e:=a.2 t1 hf
    subst e
    cases h
    exact q
   | inr e=>cases h
theorem D68 {bl:List (TCT No)} {c:TCT Bbv} {ps:Dss} {t st w fl:Int} {n:Nat} {s:S2} {s':MK} (h:buF bl c ps t st w fl n s=.inl s') (q:RQ bl n s.1 s.2.1):RK bl n s.1 s'.1 s.2.1:=by
 unfold buF at h
 exact Bay (n:=n) (Inv:=fun _ (x:MK)=>RK bl n s.1 x.1 s.2.1) (fun i x x' hi hx h2=>Cq0 hi ps.length 0 x x' hx h2) n 0 (s.1,s.2.2) s' (by omega) ⟨q,fun _=>rfl⟩ h
theorem Cq1 {k:CT} {i:Nat} {s s':S2} (h:tkE k i s=.inl s') (q:RQ k.bl k.bl.length s.1 s.2.1):RQ k.bl k.bl.length s'.1 s'.2.1∧OL k.l k.bl.length s'.1 s'.2.1:=by
 unfold tkE at h
 cases h1:mvF k.bl k.l k.t ((i+1:Nat):Int) k.bl.length s with
 | inr e=>rw [h1] at h;cases h
 | inl s1 =>
  rw [h1] at h
  simp only at h
  have a:=Cpv h1 q
  cases h2:seF k.bl k.c k.t ((i+1:Nat):Int) k.w k.fl k.bl.length s1 with
  | inr e=>rw [h2] at h;cases h
  | inl s2 =>
   rw [h2] at h
   simp only at h
   have b:=Cpy h2 a.1
   cases h3:buF k.bl k.c k.ps k.t ((i+1:Nat):Int) k.w k.fl k.bl.length (s2.1,s1.2.1,s2.2) with
   | inr e=>rw [h3] at h;cases h
   | inl s3 =>
    rw [h3] at h
    cases h
    have d:=D68 h3 b.q
    exact ⟨d.q,d.ol (b.ol a.2)⟩
theorem D69 {k:CT} {s s':S2} (h:tkF k s=.inl s') (q:RQ k.bl k.bl.length s.1 s.2.1) (p:OL k.l k.bl.length s.1 s.2.1):RQ k.bl k.bl.length s'.1 s'.2.1∧OL k.l k.bl.length s'.1 s'.2.1:=by
 unfold tkF at h
 cases h0:k.t==4000 with
 | true=>rw [h0] at h;cases h
 | false =>
  rw [h0] at h
  simp only [cond_false] at h
  cases h1:Bap (slE k.l s.2.1 k.w k.fl) 0 k.bl.length s.1 with
  | inr e=>rw [h1] at h;cases h
  | inl ms =>
   rw [h1] at h
   have a:RQ k.bl k.bl.length ms s.2.1∧OL k.l k.bl.length ms s.2.1:=Bay (n:=k.bl.length) (Inv:=fun _ (x:Bal)=>RQ k.bl k.bl.length x s.2.1∧OL k.l k.bl.length x s.2.1) (fun i x x' hi hq h=>Cps hi h hq.1 hq.2) k.bl.length 0 _ _ (by omega) ⟨q,p⟩ h1
   have h2:Bap (tkE k) 0 16 (ms,s.2.1,s.2.2)=.inl s':=h
   exact Bay (n:=16) (Inv:=fun _ (x:S2)=>RQ k.bl k.bl.length x.1 x.2.1∧OL k.l k.bl.length x.1 x.2.1) (fun i x x' _ hq h=>Cq1 h hq.1) 16 0 (ms,s.2.1,s.2.2) s' (by omega) a h2
theorem Cej {α:Type} {ok:Nat→α→Bool} {d:α}:∀ (l:List α) (i:Nat),(∀ j,j<l.length→ok (i+j) (Bam l j d)=true)→Bgf ok i l=true
 | [],_,_=>rfl
 | x::l,i,h=>by
  unfold Bgf
  rw [Bool.and_eq_true]
  refine ⟨h 0 (by simp),Cej (d:=d) l (i+1) fun j hj=>?_⟩
  have:=h (j+1) (by simpa using hj)
  rw [show i+(j+1)=i+1+j by omega] at this
  exact this
theorem Cek {α:Type} {ok:Nat→α→Bool} {d:α}:∀ (l:List α) (i:Nat),Bgf ok i l=true→∀ j,j<l.length→ok (i+j) (Bam l j d)=true
 | [],_,_,j,hj=>absurd hj (Nat.not_lt_zero j)
 | x::l,i,h,j,hj=>by
  simp only [Bgf,Bool.and_eq_true] at h
  cases j with
  | zero=>exact h.1
  | succ j =>
   have:=Cek (d:=d) l (i+1) h.2 j (by simpa using hj)
   rw [show i+(j+1)=i+1+j by omega]
   exact this
theorem Bqv {g:TCT cGr} {s:TCT cSt} (h:StaOk g s):RQ (V2 g) (V2 g).length (msT s) (osT s)∧OL g.1 (V2 g).length (msT s) (osT s):=by
 have hm:=h.m
 have key:∀ j,j<(V2 g).length→okO g.1 (Bch (V2 g) j) (Bbs (osT s) j) (Bag (msT s) j)=true:=fun j hj=>by
  have:=Cek (d:=Baj Bat) (msT s) 0 h.ok j (by omega)
  rw [Nat.zero_add] at this
  exact this
 refine ⟨⟨h.m,h.o,fun j hj=>?_,fun j hj e=>?_⟩,fun j hj e=>?_⟩
 ·have:=key j hj
  unfold okO at this
  rw [Bool.and_eq_true] at this
  exact this.1
 ·have:=key j hj
  unfold okO at this
  rw [e,Bool.and_eq_true,cond_true,Bool.and_true] at this
  exact this.2
 ·have:=key j hj
  unfold okO at this
  rw [e,Bool.and_eq_true,cond_false] at this
  exact this.2
theorem Bv2 {g:TCT cGr} {s:TCT cSt} (hg:groE g=0) (n1:1≤(V2 g).length) (n8:(V2 g).length≤8) (q:RQ (V2 g) (V2 g).length (msT s) (osT s)) (p:OL g.1 (V2 g).length (msT s) (osT s)) (hn:C0z (V2 g).length s=false):StaOk g s:=by
 have hm:=q.m
 refine ⟨hg,n1,n8,q.m,q.o,Cej (d:=Baj Bat) (msT s) 0 fun j hj=>?_,hn⟩
 rw [Nat.zero_add]
 show okO g.1 (Bch (V2 g) j) (Bbs (osT s) j) (Bag (msT s) j)=true
 unfold okO
 rw [q.ok j (by omega),Bool.true_and]
 cases e:Bbs (osT s) j with
 | true=>rw [cond_true,Bool.and_true];exact q.z j (by omega) e
 | false=>rw [cond_false];exact p j (by omega) e
end St
end V
end Go.Proofs.YtcfanlgpkefogaaGreat
namespace Go.Proofs.YtcfanlgpkefogaaGreat
open Go.RowKit
namespace V
def Blh {A B C D:Type} (f:A→C) (g:B→D):A⊕B→C⊕D
 | .inl a=>.inl (f a)
 | .inr b=>.inr (g b)
theorem Bht {S B:Type} {f:Nat→S→S⊕B} {φ:S→S} {ψ:B→B} (h:∀ i s,f i (φ s)=Blh φ ψ (f i s)):∀ (k i:Nat) (s:S),Bap f i k (φ s)=Blh φ ψ (Bap f i k s)
 | 0,_,_=>rfl
 | k+1,i,s=>by
  unfold Bap
  rw [h]
  cases f i s with
  | inl s'=>exact Bht h k (i+1) s'
  | inr b=>rfl
namespace St
def a2 (ks:Kns) (s:S2):S2:=(s.1,s.2.1,ks++s.2.2)
def aM (ks:Kns) (s:MK):MK:=(s.1,ks++s.2)
theorem Cxr {l:TCT Ban} {t st:Int} {ks:Kns} (i:Nat) (s:S2):lvE l t st i (a2 ks s)=Blh (a2 ks) id (lvE l t st i s):=by
 unfold lvE a2
 simp only
 cases Bam s.2.1 i (Baj .b) with
 | true=>rfl
 | false =>
  cases onB l (Bag s.1 i).1 with
  | true=>rfl
  | false=>simp only [Bool.not_false,cond_true,List.append_assoc];rfl
theorem Cxs {bl:List (TCT No)} {l:TCT Ban} {t st:Int} {n:Nat} {ks:Kns} (s:S2):mvF bl l t st n (a2 ks s)=Blh (a2 ks) id (mvF bl l t st n s):=by
 unfold mvF
 show (match Bap (stE bl s.2.1) 0 n s.1 with
  | .inl ms=>Bap (lvE l t st) 0 n (a2 ks (ms,s.2.1,s.2.2))
  | .inr e=>.inr e)=_
 cases Bap (stE bl s.2.1) 0 n s.1 with
 | inl ms=>exact Bht (fun i s=>Cxr i s) n 0 (ms,s.2.1,s.2.2)
 | inr e=>rfl
theorem Cxt {S:Type} {φ:S→S} {ψ:Empty→Empty} (y:S⊕Empty):unE (Blh φ ψ y)=φ (unE y):=by
 cases y with
 | inl s=>rfl
 | inr e=>exact nomatch e
theorem Cxu {W:List Int} {P:Prs} {t st:Int} {ks x:Kns}:kpV W P t st (ks++x)=ks++kpV W P t st x:=by
 unfold kpV
 rw [Bht (φ:=fun y:Kns=>ks++y) (ψ:=id) (fun i s=>by unfold kpE Blh;rw [List.append_assoc])]
 exact Cxt _
theorem Cxv {bl:List (TCT No)} {c:TCT Bbv} {t st w fl:Int} {n:Nat} {ks:Kns} (s:S2):seF bl c t st w fl n (a2 ks s)=Blh (aM ks) id (seF bl c t st w fl n s):=by
 unfold seF
 show (bif (seS bl c w fl n s).2.2.1 != 0 then .inr (seS bl c w fl n s).2.2.1 else .inl (scV (seG bl w fl n s).1 (seS bl c w fl n s).1 s.1,kpV (seG bl w fl n s).1 (seS bl c w fl n s).2.1 t st (ks++s.2.2)):MK⊕Int)=_
 rw [Cxu]
 cases (seS bl c w fl n s).2.2.1 != 0 <;> rfl
theorem Cxw {b:TCT No} {c:TCT Bbv} {ps:Dss} {os:List Bool} {w fl t st:Int} {i:Nat} {ks:Kns} (k:Nat) (s:MK):bpE b c ps os w fl t st i k (aM ks s)=Blh (aM ks) (Blh (aM ks) id) (bpE b c ps os w fl t st i k s):=by
 unfold bpE aM
 simp only
 cases !Bbu s.1 os i||Bdb w fl i with
 | true=>rfl
 | false =>
  cases (bmV b (Bag s.1 i) (Bd3 ps k) c).2.1==0 with
  | true=>simp only [cond_false,cond_true,List.append_assoc];rfl
  | false=>cases (bmV b (Bag s.1 i) (Bd3 ps k) c).2.1==4 <;> rfl
theorem Cq2 {φ:MK→MK} (y:MK⊕(MK⊕Int)):Bsr (Blh φ (Blh φ id) y)=Blh φ id (Bsr y):=by
 cases y with
 | inl s=>rfl
 | inr z=>cases z <;> rfl
theorem Cxx {bl:List (TCT No)} {c:TCT Bbv} {ps:Dss} {t st w fl:Int} {n:Nat} {ks:Kns} (s:S2):buF bl c ps t st w fl n (a2 ks s)=Blh (aM ks) id (buF bl c ps t st w fl n s):=by
 unfold buF
 exact Bht (φ:=aM ks) (ψ:=id) (fun i s=>by unfold boE;rw [Bht (fun k s=>Cxw k s)];exact Cq2 _) n 0 (s.1,s.2.2)
theorem Cel {k:CT} {ks:Kns} (i:Nat) (s:S2):tkE k i (a2 ks s)=Blh (a2 ks) id (tkE k i s):=by
 unfold tkE
 rw [Cxs]
 cases mvF k.bl k.l k.t ((i+1:Nat):Int) k.bl.length s with
 | inr e=>rfl
 | inl s1 =>
  show ((match seF k.bl k.c k.t ((i+1:Nat):Int) k.w k.fl k.bl.length (a2 ks s1) with
   | .inr e=>.inr e
   | .inl s2=>match buF k.bl k.c k.ps k.t ((i+1:Nat):Int) k.w k.fl k.bl.length (s2.1,s1.2.1,s2.2) with
    | .inr e=>.inr e
    | .inl s3=>.inl (s3.1,s1.2.1,s3.2)):S2⊕Int)=_
  rw [Cxv]
  simp only
  cases seF k.bl k.c k.t ((i+1:Nat):Int) k.w k.fl k.bl.length s1 with
  | inr e=>rfl
  | inl s2 =>
   show ((match buF k.bl k.c k.ps k.t ((i+1:Nat):Int) k.w k.fl k.bl.length (a2 ks (s2.1,s1.2.1,s2.2)) with
    | .inr e=>.inr e
    | .inl s3=>.inl (s3.1,s1.2.1,s3.2)):S2⊕Int)=_
   rw [Cxx]
   simp only
   cases buF k.bl k.c k.ps k.t ((i+1:Nat):Int) k.w k.fl k.bl.length (s2.1,s1.2.1,s2.2) <;> rfl
theorem Cem {k:CT} {ks:Kns} (s:S2):tkF k (a2 ks s)=Blh (a2 ks) id (tkF k s):=by
 unfold tkF
 show ((bif k.t==4000 then .inr 3 else match Bap (slE k.l s.2.1 k.w k.fl) 0 k.bl.length s.1 with
  | .inr e=>.inr e
  | .inl ms=>Bap (tkE k) 0 16 (a2 ks (ms,s.2.1,s.2.2))):S2⊕Int)=_
 cases k.t==4000 with
 | true=>rfl
 | false =>
  simp only [cond_false]
  cases Bap (slE k.l s.2.1 k.w k.fl) 0 k.bl.length s.1 with
  | inr e=>rfl
  | inl ms=>exact Bht (fun i s=>Cel i s) 16 0 (ms,s.2.1,s.2.2)
theorem D6a {k:CT} {ms:Bal} {os:List Bool} {ks:Kns}:tkF k (ms,os,ks)=Blh (a2 ks) id (tkF k (ms,os,[])):=by
 have:=Cem (k:=k) (ks:=ks) (ms,os,[])
 unfold a2 at this
 simp only [List.append_nil] at this
 exact this
def nxS (s:TCT cSt) (r:S2):TCT cSt:=(r.1,r.2.1,s.2.2.1,max 0 (W64 (s.2.2.2.1-1)),W64 (s.2.2.2.2.1+1),())
theorem D6b {n a b c:Int} (h1:0≤a∧a<n) (h2:0≤b∧b≤8) (h3:0≤c∧c≤4000):(decide (a<0)||(decide (a≥n)||(decide (b<0)||(decide (b>8)||(decide (c<0)||decide (c>4000))))))=false:=by
 simp only [Bool.or_eq_false_iff,decide_eq_false_iff_not]
 omega
theorem D6c {n a b c:Int} (h:(decide (a<0)||(decide (a≥n)||(decide (b<0)||(decide (b>8)||(decide (c<0)||decide (c>4000))))))=false):(0≤a∧a<n)∧(0≤b∧b≤8)∧(0≤c∧c≤4000):=by
 simp only [Bool.or_eq_false_iff,decide_eq_false_iff_not] at h
 omega
theorem D6d {b c:Int} (h2:0≤b∧b≤8) (h3:0≤c∧c≤4000) (h4:¬ c=4000):(0≤max 0 (W64 (b-1))∧max 0 (W64 (b-1))≤8)∧(0≤W64 (c+1)∧W64 (c+1)≤4000):=by
 rw [Bb4 (n:=b-1) (by omega) (by omega),Bb4 (n:=c+1) (by omega) (by omega)]
 omega
theorem Bv3 {g:TCT cGr} {s:TCT cSt} {ks:Kns} {r:S2} (h:StaOk g s) (ht:tkF (ctS g s) (msT s,osT s,ks)=.inl r):StaOk g (nxS s r):=by
 have a:=Bqv h
 have b:=D69 (k:=ctS g s) (s:=(msT s,osT s,ks)) ht a.1 a.2
 have hn:(0≤s.2.2.1∧s.2.2.1<((V2 g).length:Int))∧(0≤s.2.2.2.1∧s.2.2.2.1≤8)∧(0≤s.2.2.2.2.1∧s.2.2.2.2.1≤4000):=D6c h.num
 have h4:¬ s.2.2.2.2.1=4000:=by
  intro e
  unfold tkF at ht
  rw [show ((ctS g s).t==4000)=true from beq_iff_eq.2 e] at ht
  cases ht
 have c:=D6d hn.2.1 hn.2.2 h4
 exact Bv2 h.gr h.n1 h.n8 b.1 b.2 (D6b hn.1 c.1 c.2)
def rnS (g:TCT cGr):Nat→TCT cSt→Kns→(TCT cSt×Kns)⊕Int
 | 0,s,ks=>bif decide ((ks.length:Int)>4096) then .inr 6 else .inl (s,ks)
 | n+1,s,ks=>bif decide ((ks.length:Int)>4096) then .inr 6 else bif !Bcc s then match tkF (ctS g s) (msT s,osT s,ks) with
  | .inl r=>rnS g n (nxS s r) r.2.2
  | .inr e=>.inr e
  else .inl (s,ks)
def gZ (g:TCT cGr) (s:TCT cSt) (stp:Int) (ks:Kns):GB:=((g.1.1,g.1.2.1,g.1.2.2.1,g.1.2.2.2.1,g.1.2.2.2.2.1,g.1.2.2.2.2.2.1.1.1,g.1.2.2.2.2.2.1.1.2.1,g.1.2.2.2.2.2.1.2.1,g.1.2.2.2.2.2.2.1,g.1.2.2.2.2.2.2.2.1,g.1.2.2.2.2.2.2.2.2.1,g.2.1,g.2.2.1.1,g.2.2.1.2.1,postsV g.1,s.1,s.2.1,s.2.2.1,s.2.2.2.1,s.2.2.2.2.1,stp,((),(),()),()),(ks,()),())
def Ca8:(TCT cSt×Kns)⊕Int→TkR
 | .inl r=>((r.1.1,r.1.2.1,r.1.2.2.1,r.1.2.2.2.1,r.1.2.2.2.2.1,()),r.2,0,())
 | .inr e=>Bfz e
theorem plRn_rnS {g:TCT cGr}:∀ (n:Nat) (s:TCT cSt) (stp:Int) (ks:Kns),Chn (plRn n (gZ g s stp ks))=Ca8 (rnS g n s ks)
 | 0,s,stp,ks=>by
  show Chn (bif decide ((ks.length:Int)>4096) then .inr 6 else .inl (gZ g s stp ks))=Ca8 (bif decide ((ks.length:Int)>4096) then .inr 6 else .inl (s,ks))
  cases decide ((ks.length:Int)>4096) <;> rfl
 | n+1,s,stp,ks=>by
  show Chn (bif decide ((ks.length:Int)>4096) then .inr 6 else bif !Bcc (stG (gZ g s stp ks).1) then match tkF (ctS g s) (msT s,osT s,ks) with
   | .inl r=>plRn n (gZ g (nxS s r) 17 r.2.2)
   | .inr e=>.inr e
   else .inl (gZ g s stp ks))=Ca8 (bif decide ((ks.length:Int)>4096) then .inr 6 else bif !Bcc s then match tkF (ctS g s) (msT s,osT s,ks) with
   | .inl r=>rnS g n (nxS s r) r.2.2
   | .inr e=>.inr e
   else .inl (s,ks))
  cases decide ((ks.length:Int)>4096) with
  | true=>rfl
  | false =>
   show Chn (bif !Bcc s then match tkF (ctS g s) (msT s,osT s,ks) with
    | .inl r=>plRn n (gZ g (nxS s r) 17 r.2.2)
    | .inr e=>.inr e
    else .inl (gZ g s stp ks))=Ca8 (bif !Bcc s then match tkF (ctS g s) (msT s,osT s,ks) with
    | .inl r=>rnS g n (nxS s r) r.2.2
    | .inr e=>.inr e
    else .inl (s,ks))
   cases Bcc s with
   | true=>rfl
   | false =>
    simp only [Bool.not_false,cond_true]
    cases tkF (ctS g s) (msT s,osT s,ks) with
    | inr e=>rfl
    | inl r=>exact plRn_rnS n (nxS s r) 17 r.2.2
theorem Cq3 {g:TCT cGr} {s:TCT cSt} {n:Int}:PlayV g s n=bif Be0 g s != 0 then Bfz (Be0 g s) else bif decide (n<0)||decide (n>4000) then Bfz 3 else Ca8 (rnS g (Int.toNat n) s []):=by
 unfold PlayV
 rw [show Chn (plRn (Int.toNat n) (gT g s))=Ca8 (rnS g (Int.toNat n) s []) from plRn_rnS (Int.toNat n) s 0 []]
end St
end V
end Go.Proofs.YtcfanlgpkefogaaGreat
namespace Go.Proofs.YtcfanlgpkefogaaGreat
open Go.RowKit
namespace V
namespace St
theorem Bv4 {g:TCT cGr} (s:TCT cSt) (ks:Kns):rnS g 0 s ks=bif decide ((ks.length:Int)>4096) then .inr 6 else .inl (s,ks):=rfl
theorem Bv5 {g:TCT cGr} (n:Nat) (s:TCT cSt) (ks:Kns):rnS g (n+1) s ks=bif decide ((ks.length:Int)>4096) then .inr 6 else bif !Bcc s then match tkF (ctS g s) (msT s,osT s,ks) with
  | .inl r=>rnS g n (nxS s r) r.2.2
  | .inr e=>.inr e
  else .inl (s,ks):=rfl
theorem Cen {g:TCT cGr}:∀ (n:Nat) (s:TCT cSt) (ks:Kns) (r:TCT cSt×Kns),StaOk g s→rnS g n s ks=.inl r→StaOk g r.1∧r.2.length≤4096
 | 0,s,ks,r,h,e=>by
  rw [Bv4] at e
  cases hm:decide ((ks.length:Int)>4096) with
  | true=>rw [hm] at e;cases e
  | false =>
   rw [hm] at e
   have:=of_decide_eq_false hm
   cases e
   exact ⟨h,by show ks.length≤4096;omega⟩
 | n+1,s,ks,r,h,e=>by
  rw [Bv5] at e
  cases hm:decide ((ks.length:Int)>4096) with
  | true=>rw [hm] at e;cases e
  | false =>
   rw [hm] at e
   have:=of_decide_eq_false hm
   cases hs:Bcc s with
   | true =>
    rw [hs] at e
    cases e
    exact ⟨h,by show ks.length≤4096;omega⟩
   | false =>
    rw [hs] at e
    simp only [Bool.not_false,cond_true,cond_false] at e
    cases ht:tkF (ctS g s) (msT s,osT s,ks) with
    | inr x=>rw [ht] at e;cases e
    | inl x=>rw [ht] at e;exact Cen n (nxS s x) x.2.2 r (Bv3 h ht) e
theorem D6e {g:TCT cGr} {s:TCT cSt} (h:StaOk g s):Be0 g s=0:=by
 unfold Be0 vaE
 have e:Bxq g s=true:=by
  unfold Bxq
  rw [h.m,h.o,beq_self_eq_true];rfl
 rw [h.gr,e,h.ok,h.num];rfl
theorem Bqw {g:TCT cGr} {s:TCT cSt} (h:StaOk g s):(Be0 g s != 0)=false:=by rw [D6e h];rfl
theorem play_of {g:TCT cGr} {s:TCT cSt} {n:Nat} (h:StaOk g s) (hn:n≤4000):PlayV g s (n:Int)=Ca8 (rnS g n s []):=by
 rw [Cq3,Bqw h,decide_eq_false (show ¬ (n:Int)<0 by omega),decide_eq_false (show ¬ (n:Int)>4000 by omega)]
 rfl
end St
end V
end Go.Proofs.YtcfanlgpkefogaaGreat
