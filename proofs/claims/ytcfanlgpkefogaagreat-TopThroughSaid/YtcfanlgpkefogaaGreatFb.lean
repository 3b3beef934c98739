import Derived.Test.YtcfanlgpkefogaaGreatDo
import Derived.Test.YtcfanlgpkefogaaGreatDw
namespace Go.Proofs.YtcfanlgpkefogaaGreat
open Go.RowKit
namespace V
namespace St
theorem Mk {α:Type} {d:α} {l:List α} {i j:Nat} {x:α} (hi:i<l.length):B7 (By l i x) j d=if j=i then x else B7 l j d:=by
 rw [C6,Fq,Fq,List.getD_eq_getElem?_getD,List.getD_eq_getElem?_getD,List.getElem?_set]
 by_cases h:i=j
 ·subst h
  rw [if_pos rfl,if_pos hi,if_pos rfl];rfl
 ·rw [if_neg h,if_neg (fun e=>h e.symm)]
theorem J5 {l:B5} {i j:Nat} {x:TCT Bg} (hi:i<l.length) (h:j=i):A8 (By l i x) j=x:=by unfold A8;rw [Mk hi,if_pos h]
theorem Gb {l:B5} {i j:Nat} {x:TCT Bg} (hi:i<l.length) (h:¬ j=i):A8 (By l i x) j=A8 l j:=by unfold A8;rw [Mk hi,if_neg h]
def Di (os:List Bool) (i:Nat):Bool:=B7 os i (B9 .b)
theorem Aiv {l:List Bool} {i j:Nat} {x:Bool} (hi:i<l.length) (h:j=i):Di (By l i x) j=x:=by unfold Di;rw [Mk hi,if_pos h]
theorem A62 {l:List Bool} {i j:Nat} {x:Bool} (hi:i<l.length) (h:¬ j=i):Di (By l i x) j=Di l j:=by unfold Di;rw [Mk hi,if_neg h]
def arS (m m':TCT Bg):Prop:=m'.1=m.1∧m'.2.2.1=m.2.2.1
theorem Q0 {b:TCT A2} {m m':TCT Bg} (h:M5 b m=true) (ha:arS m m') (hs:smB m'=true):M5 b m'=true:=by
 unfold M5 Qn at h ⊢
 simp only [Bool.and_eq_true] at h ⊢
 rw [ha.1,ha.2]
 exact ⟨h.1,h.2.1,hs,h.2.2.2⟩
structure RQ (bl:List (TCT A2)) (n:Nat) (ms:B5) (os:List Bool):Prop where
 m:ms.length=n
 o:os.length=n
 ok:∀ j,j<n→M5 (F2 bl j) (A8 ms j)=true
 z:∀ j,j<n→Di os j=true→Ga (A8 ms j)=true
def OL (l:TCT A9) (n:Nat) (ms:B5) (os:List Bool):Prop:=∀ j,j<n→Di os j=false→onB l (A8 ms j).1=true
theorem Ta {ms:B5} {os:List Bool} {i:Nat} (h:(!Cp ms os i)=false):Di os i=false:=by
 unfold Cp at h
 unfold Di
 cases ho:B7 os i (B9 .b) with
 | false=>rfl
 | true=>rw [ho] at h;cases h
theorem RQ.set {bl:List (TCT A2)} {n i:Nat} {ms:B5} {os:List Bool} {x:TCT Bg} (q:RQ bl n ms os) (hi:i<n) (hx:M5 (F2 bl i) x=true) (ho:Di os i=false):RQ bl n (By ms i x) os:=by
 have hm:=q.m
 refine ⟨(C7 _ _ _).trans hm,q.o,fun j hj=>?_,fun j hj h=>?_⟩
 ·by_cases e:j=i
  ·rw [J5 (by omega) e,e];exact hx
  ·rw [Gb (by omega) e];exact q.ok j hj
 ·by_cases e:j=i
  ·rw [e,ho] at h;cases h
  ·rw [Gb (by omega) e];exact q.z j hj h
theorem OL.set {l:TCT A9} {n i:Nat} {ms:B5} {os:List Bool} {x:TCT Bg} (q:OL l n ms os) (hm:ms.length=n) (hi:i<n) (hx:x.1=(A8 ms i).1):OL l n (By ms i x) os:=fun j hj h=>by
 by_cases e:j=i
 ·rw [J5 (by omega) e,hx,← e];exact q j hj h
 ·rw [Gb (by omega) e];exact q j hj h
theorem B2g {p n A:Int} (hn:0<n) (h1 : -(A*n)≤p) (h2:p≤A*n) : -A≤Int.tdiv p n∧Int.tdiv p n≤A:=by
 have key:∀ q:Int,0≤q→q≤A*n→0≤q / n∧q / n≤A:=fun q h0 h=>by
  refine ⟨Int.ediv_nonneg h0 (by omega),?_⟩
  have:q / n<A+1:=Int.ediv_lt_of_lt_mul hn (by rw [Int.add_mul,Int.one_mul];omega)
  omega
 by_cases hp:0≤p
 ·rw [Int.tdiv_eq_ediv_of_nonneg hp]
  have:=key p hp h2
  omega
 ·have e:p = -(-p):=by omega
  rw [e,Int.neg_tdiv,Int.tdiv_eq_ediv_of_nonneg (show 0 ≤ -p by omega)]
  have:=key (-p) (by omega) (by omega)
  omega
theorem A9z {x a n A:Int} (hx : -A≤x∧x≤A) (hA:0≤A) (ha:0≤a∧a≤n) (hn:0<n) : -A≤Int.tdiv (x*a) n∧Int.tdiv (x*a) n≤A:=by
 have h1:x*a≤A*a:=Int.mul_le_mul_of_nonneg_right hx.2 ha.1
 have h2:(-A)*a≤x*a:=Int.mul_le_mul_of_nonneg_right hx.1 ha.1
 have h3:A*a≤A*n:=Int.mul_le_mul_of_nonneg_left ha.2 hA
 rw [Int.neg_mul] at h2
 exact B2g hn (by omega) (by omega)
theorem Zm {x y:Int} (hx : -16777216≤x∧x≤16777216) (hy : -16777216≤y∧y≤16777216):Bp x y=true:=by
 unfold Bp Bu
 rw [decide_eq_false (show ¬ x < -16777216 by omega),decide_eq_false (show ¬ 16777216<x by omega),decide_eq_false (show ¬ y < -16777216 by omega),decide_eq_false (show ¬ 16777216<y by omega)]
 rfl
theorem Fu {x y:Int} (h:Bp x y=true):(-16777216≤x∧x≤16777216)∧(-16777216≤y∧y≤16777216):=by
 unfold Bp at h
 simp only [Bool.and_eq_true,Bool.not_eq_true'] at h
 exact ⟨Fi h.1,Fi h.2⟩
theorem Aa0 {x y l:Int} (h:(Je x y l).2.1=0):Bp (Je x y l).1.1 (Je x y l).1.2.1=true:=by
 unfold Je at h ⊢
 cases h1:Bp x y with
 | false=>rw [h1] at h;cases h
 | true =>
  rw [h1] at h
  simp only [Bool.not_true,cond_false] at h ⊢
  cases h2:Bu l 0 33554432 with
  | true=>rw [h2] at h;cases h
  | false =>
   rw [h2] at h
   simp only [cond_false] at h ⊢
   cases h3:decide (slN x y≤8*l) with
   | true=>rfl
   | false =>
    have b:=Fu h1
    have c:=Fi h2
    have d:=of_decide_eq_false h3
    simp only [cond_false]
    exact Zm (A9z b.1 (by omega) ⟨by omega,by omega⟩ (by omega)) (A9z b.2 (by omega) ⟨by omega,by omega⟩ (by omega))
theorem Auc {l:TCT A9} {bl:List (TCT A2)} {os:List Bool} {w fl:Int} {i n:Nat} {ms ms':B5} (hi:i<n) (h:slE l os w fl i ms=.inl ms') (q:RQ bl n ms os) (p:OL l n ms os):RQ bl n ms' os∧OL l n ms' os:=by
 unfold slE at h
 cases h1:!Cp ms os i||Ff w fl i with
 | true=>rw [h1] at h;cases h;exact ⟨q,p⟩
 | false =>
  rw [h1] at h
  rw [Bool.or_eq_false_iff] at h1
  cases h2:Fy l (A8 ms i).1 != 0 with
  | true=>rw [h2] at h;cases h
  | false =>
   rw [h2] at h
   cases h3:(Ld l (A8 ms i)).2.1 != 0 with
   | true=>rw [h3] at h;cases h
   | false =>
    rw [h3] at h
    cases h
    have hs:smB (A2c l (A8 ms i))=true:=Aa0 (bne_eq_false_iff_eq.1 h3)
    exact ⟨q.set hi (Q0 (q.ok i hi) ⟨rfl,rfl⟩ hs) (Ta h1.1),p.set q.m hi rfl⟩
theorem B70 (n m:Int) (hm:1≤m) : -(32*m)≤DR n (64*m)∧DR n (64*m)≤32*m-1:=by
 unfold DR DW
 have a:=Int.ediv_mul_le (2*n+64*m) (show 2*(64*m)≠0 by omega)
 have b:=Int.lt_ediv_add_one_mul_self (2*n+64*m) (show 0<2*(64*m) by omega)
 generalize (2*n+64*m) / (2*(64*m))=w at a b
 rw [Int.add_mul,Int.one_mul] at b
 have e:w*(2*(64*m))=2*(w*(64*m)):=by grind
 rw [e] at a b
 omega
theorem Aeo {x lo hi:Int} (h:lo≤x∧x≤hi):Bu x lo hi=false:=by
 unfold Bu
 rw [decide_eq_false (show ¬ x<lo by omega),decide_eq_false (show ¬ hi<x by omega)];rfl
theorem Aud {b:TCT A2} {m:TCT Bg} (h:(L6 (bm b m)).2.1=0):M5 b (L6 (bm b m)).1=true:=by
 unfold L6 at h ⊢
 cases h1:(bm b m).ok with
 | false=>rw [h1] at h;cases h
 | true =>
  rw [h1] at h
  simp only [Bool.not_true,cond_false] at h ⊢
  cases h2:fpt (sX (bm b m)) (sY (bm b m)) with
  | false=>rw [h2] at h;cases h
  | true =>
   simp only [Bool.not_true,cond_false]
   have f:=Bm.fit h1
   unfold Bm.ok Qn at h1
   simp only [Bool.and_eq_true] at h1
   unfold M5 Qn
   simp only [Bool.and_eq_true,Bool.not_eq_true']
   have hm:1≤b.1:=Int.le_trans (by decide) f.m1
   exact ⟨h1.1,h2,h1.2.2.1,Aeo (B70 _ b.1 hm),Aeo (B70 _ b.1 hm)⟩
theorem Aue {bl:List (TCT A2)} {os:List Bool} {i n:Nat} {ms ms':B5} (hi:i<n) (h:stE bl os i ms=.inl ms') (q:RQ bl n ms os):RQ bl n ms' os:=by
 unfold stE at h
 cases h1:!Cp ms os i with
 | true=>rw [h1] at h;cases h;exact q
 | false =>
  rw [h1] at h
  cases h3:(Mh (F2 bl i) (A8 ms i)).2.1 != 0 with
  | true=>rw [h3] at h;cases h
  | false =>
   rw [h3] at h
   cases h
   exact q.set hi (Aud (bne_eq_false_iff_eq.1 h3)) (Ta h1)
theorem Bba {l:TCT A9} {bl:List (TCT A2)} {t st:Int} {i n:Nat} {s s':S2} (hi:i<n) (h:lvE l t st i s=.inl s') (q:RQ bl n s.1 s.2.1) (p:OL l i s.1 s.2.1):RQ bl n s'.1 s'.2.1∧OL l (i+1) s'.1 s'.2.1:=by
 have hm:=q.m
 have ho:=q.o
 unfold lvE at h
 cases h1:B7 s.2.1 i (B9 .b) with
 | true =>
  rw [h1] at h
  cases h
  refine ⟨q,fun j hj e=>?_⟩
  by_cases k:j=i
  ·rw [k] at e;unfold Di at e;rw [h1] at e;cases e
  ·exact p j (by omega) e
 | false =>
  rw [h1] at h
  cases h2:onB l (A8 s.1 i).1 with
  | true =>
   rw [h2] at h
   cases h
   refine ⟨q,fun j hj e=>?_⟩
   by_cases k:j=i
   ·rw [k];exact h2
   ·exact p j (by omega) e
  | false =>
   rw [h2] at h
   cases h
   refine ⟨⟨(C7 _ _ _).trans hm,(C7 _ _ _).trans ho,fun j hj=>?_,fun j hj e=>?_⟩,fun j hj e=>?_⟩
   ·by_cases k:j=i
    ·rw [J5 (by omega) k,k]
     exact Q0 (q.ok i hi) ⟨rfl,rfl⟩ rfl
    ·rw [Gb (by omega) k];exact q.ok j hj
   ·by_cases k:j=i
    ·rw [J5 (by omega) k];rfl
    ·rw [A62 (by omega) k] at e
     rw [Gb (by omega) k];exact q.z j hj e
   ·by_cases k:j=i
    ·rw [Aiv (by omega) k] at e;cases e
    ·rw [A62 (by omega) k] at e
     rw [Gb (by omega) k];exact p j (by omega) e
theorem Auf {bl:List (TCT A2)} {l:TCT A9} {t st:Int} {n:Nat} {s s':S2} (h:mvF bl l t st n s=.inl s') (q:RQ bl n s.1 s.2.1):RQ bl n s'.1 s'.2.1∧OL l n s'.1 s'.2.1:=by
 unfold mvF at h
 cases h1:B8 (stE bl s.2.1) 0 n s.1 with
 | inr e=>rw [h1] at h;cases h
 | inl ms =>
  rw [h1] at h
  have a:RQ bl n ms s.2.1:=Bn (n:=n) (Inv:=fun _ (x:B5)=>RQ bl n x s.2.1) (fun i x x' hi hq h=>Aue hi h hq) n 0 _ _ (by omega) q h1
  have h2:B8 (lvE l t st) 0 n (ms,s.2.1,s.2.2)=.inl s':=h
  exact Bn (n:=n) (Inv:=fun i (x:S2)=>RQ bl n x.1 x.2.1∧OL l i x.1 x.2.1) (fun i x x' hi hq h=>Bba hi h hq.1 hq.2) n 0 (ms,s.2.1,s.2.2) s' (by omega) ⟨a,fun j hj=>absurd hj (Nat.not_lt_zero j)⟩ h2
end St
end V
end Go.Proofs.YtcfanlgpkefogaaGreat
namespace Go.Proofs.YtcfanlgpkefogaaGreat
open Go.RowKit
namespace V
namespace St
def SA (G M:B5):Prop:=∀ j:Nat,arS (A8 G j) (A8 M j)
theorem SA.set {G M:B5} {i:Nat} {x:TCT Bg} (h:SA G M) (hx:arS (A8 M i) x):SA G (By M i x):=fun j=>by
 by_cases hi:i<M.length
 ·by_cases e:j=i
  ·rw [J5 hi e,e]
   exact ⟨hx.1.trans (h i).1,hx.2.trans (h i).2⟩
  ·rw [Gb hi e];exact h j
 ·have:By M i x=M:=by rw [C6];exact List.set_eq_of_length_le (Nat.le_of_not_lt hi)
  rw [this];exact h j
theorem Bbb {a b:Bm} {k:Qw} (h:(I6 a b k).2.2.1=0):(I6 a b k).1.1=(a.px,a.py,())∧(I6 a b k).1.2.2.1=(a.rx,a.ry,())∧(I6 a b k).2.1.1=(b.px,b.py,())∧(I6 a b k).2.1.2.2.1=(b.rx,b.ry,()):=by
 unfold I6 at h ⊢
 cases h1:k.2.1 != 0 with
 | true=>rw [h1] at h;exact absurd h (bne_iff_ne.1 h1)
 | false =>
  rw [h1] at h
  simp only [cond_false] at h ⊢
  cases h2:Bp (W64 (a.mx-k.1.1)) (W64 (a.my-k.1.2.1)) with
  | false=>rw [h2] at h;cases h
  | true =>
   rw [h2] at h
   simp only [Bool.not_true,cond_false] at h ⊢
   cases h3:Bp (W64 (b.mx+k.1.1)) (W64 (b.my+k.1.2.1)) with
   | false=>rw [h3] at h;cases h
   | true=>exact ⟨rfl,rfl,rfl,rfl⟩
theorem Aug {l:List (TCT A2)} {re dr:Int} {i k:Nat} {G:B5} {s s':SS} (hik:¬ k=i) (h:Fz l re dr i k s=some s') (hs:SA G s.1):SA G s'.1:=by
 unfold Fz at h
 cases h1:(Ch (bAt l s.1 i) (bAt l s.1 k) re dr).2.2.1==0 with
 | true =>
  rw [h1] at h
  simp only [cond_true,Option.some.injEq] at h
  subst h
  obtain ⟨b1,b2,b3,b4⟩:=Bbb (a:=bAt l s.1 i) (b:=bAt l s.1 k) (k:=Wl (bAt l s.1 i) (bAt l s.1 k) re dr) (beq_iff_eq.1 h1)
  have ha:arS (A8 s.1 i) (Ch (bAt l s.1 i) (bAt l s.1 k) re dr).1:=⟨b1,b2⟩
  have hb:arS (A8 s.1 k) (Ch (bAt l s.1 i) (bAt l s.1 k) re dr).2.1:=⟨b3,b4⟩
  refine SA.set (SA.set hs ha) ?_
  by_cases hi:i<s.1.length
  ·rw [Gb hi hik];exact hb
  ·have:By s.1 i (Ch (bAt l s.1 i) (bAt l s.1 k) re dr).1=s.1:=by rw [C6];exact List.set_eq_of_length_le (Nat.le_of_not_lt hi)
   rw [this];exact hb
 | false =>
  rw [h1,cond_false] at h
  cases h2:(Ch (bAt l s.1 i) (bAt l s.1 k) re dr).2.2.1==4 with
  | true=>rw [h2] at h;simp at h
  | false=>rw [h2] at h;simp only [cond_false,Option.some.injEq] at h;subst h;exact hs
theorem Auh {l:List (TCT A2)} {re dr:Int} {i:Nat} {G:B5}:∀ (f k:Nat) (s s':SS),i<k→V.inR l re dr i f k s=some s'→SA G s.1→SA G s'.1
 | 0,k,s,s',_,h,hs=>by rw [V.inR,Option.some.injEq] at h;subst h;exact hs
 | f+1,k,s,s',hk,h,hs=>by
  rw [V.inR] at h
  cases h1:Fz l re dr i k s with
  | none=>rw [h1] at h;simp at h
  | some s1 =>
   rw [h1,Option.bind_some] at h
   exact Auh f (k+1) s1 s' (by omega) h (Aug (by omega) h1 hs)
theorem Aiw {l:List (TCT A2)} {re dr:Int} {G:B5}:∀ (f i:Nat) (s s':SS),Iq l re dr f i s=some s'→SA G s.1→SA G s'.1
 | 0,i,s,s',h,hs=>by rw [Mr,Option.some.injEq] at h;subst h;exact hs
 | f+1,i,s,s',h,hs=>by
  rw [K8] at h
  cases h1:V.inR l re dr i (l.length-(i+1)) (i+1) s with
  | none=>rw [h1] at h;simp at h
  | some s1 =>
   rw [h1,Option.bind_some] at h
   exact Aiw f (i+1) s1 s' h (Auh _ _ _ _ (by omega) h1 hs)
theorem Aly {l:List (TCT A2)} {s:B5} {re dr:Int} (h:(Cf l s re dr).2.2.1=0):SA s (Cf l s re dr).1:=by
 unfold Cf at h ⊢
 cases h1:Mq l s != 0 with
 | true=>rw [h1,cond_true] at h;exact absurd h (bne_iff_ne.1 h1)
 | false =>
  rw [h1,cond_false] at h
  simp only [cond_false]
  cases h2:!Hl re dr with
  | true=>rw [h2] at h;cases h
  | false =>
   rw [h2,cond_false] at h
   simp only [cond_false]
   cases h3:Iq l re dr l.length 0 (s,[]) with
   | none=>rw [h3] at h;cases h
   | some s' =>
    have hz:SA s ((s,[]):SS).1:=fun j=>⟨rfl,rfl⟩
    exact Aiw _ _ _ _ h3 hz
structure InvH (ms:B5) (os:List Bool) (n i:Nat) (s:GA):Prop where
 g:InvG n i s
 h:∀ k:Nat,k<s.1.length→A8 s.2.2 k=A8 ms (Int.toNat (B7 s.1 k (B9 cI)))∧Di os (Int.toNat (B7 s.1 k (B9 cI)))=false
theorem Gz {α:Type} {d:α} {l:List α} {x:α} {k:Nat} (h:k<l.length+1):B7 (l++[x]) k d=if k=l.length then x else B7 l k d:=by
 rw [Fq,Fq,List.getD_eq_getElem?_getD,List.getD_eq_getElem?_getD]
 by_cases e:k=l.length
 ·rw [if_pos e,e,List.getElem?_append_right (Nat.le_refl _),Nat.sub_self];rfl
 ·rw [if_neg e,List.getElem?_append_left (by omega)]
theorem Bgv {bl:List (TCT A2)} {ms:B5} {os:List Bool} {w fl:Int} {n:Nat} (i:Nat) (s s':GA) (hi:i<n) (h:InvH ms os n i s) (h2:gaE bl ms os w fl i s=.inl s'):InvH ms os n (i+1) s':=by
 have hg:=Ae4 i s s' hi h.g h2
 refine ⟨hg,?_⟩
 unfold gaE at h2
 cases hc:!B7 os i (B9 .b)&&!Ff w fl i with
 | false=>rw [hc] at h2;cases h2;exact h.h
 | true =>
  rw [hc] at h2
  cases h2
  have hm:=h.g.m
  have ho:Di os i=false:=by
   unfold Di
   rw [Bool.and_eq_true] at hc
   simpa using hc.1
  intro k hk
  have hk2:k<(s.1++[(i:Int)]).length:=hk
  have hk':k<s.1.length+1:=by rw [List.length_append,List.length_singleton] at hk2;exact hk2
  show B7 (s.2.2++[A8 ms i]) k (B9 Bg)=A8 ms (Int.toNat (B7 (s.1++[(i:Int)]) k (B9 cI)))∧Di os (Int.toNat (B7 (s.1++[(i:Int)]) k (B9 cI)))=false
  rw [Gz (by omega),Gz hk']
  by_cases e:k=s.1.length
  ·rw [if_pos e,if_pos (by omega)]
   exact ⟨rfl,ho⟩
  ·rw [if_neg e,if_neg (by omega)]
   exact h.h k (by omega)
theorem A3p {bl:List (TCT A2)} {ms:B5} {os:List Bool} {w fl:Int} {n:Nat}:InvH ms os n n (gaV bl w fl n ms os) :=
 Bn (n:=n) (Inv:=InvH ms os n) (fun i s s' hi h h2=>Bgv (bl:=bl) (w:=w) (fl:=fl) i s s' hi h h2) n 0 ([],[],[]) _ (by omega) ⟨⟨rfl,rfl,Nat.le_refl _,fun w hw=>nomatch hw⟩,fun k hk=>absurd hk (Nat.not_lt_zero k)⟩ (Jn (B8 (gaE bl ms os w fl) 0 n ([],[],[])))
structure RK (bl:List (TCT A2)) (n:Nat) (ms0 ms:B5) (os:List Bool):Prop where
 q:RQ bl n ms os
 a:∀ j:Nat,(A8 ms j).1=(A8 ms0 j).1
theorem RK.ol {bl:List (TCT A2)} {l:TCT A9} {n:Nat} {ms0 ms:B5} {os:List Bool} (k:RK bl n ms0 ms os) (p:OL l n ms0 os):OL l n ms os:=fun j hj h=>by rw [k.a j];exact p j hj h
theorem RK.set {bl:List (TCT A2)} {n i:Nat} {ms0 ms:B5} {os:List Bool} {x:TCT Bg} (k:RK bl n ms0 ms os) (hi:i<n) (hx:M5 (F2 bl i) x=true) (ho:Di os i=false) (hp:x.1=(A8 ms0 i).1):RK bl n ms0 (By ms i x) os:=by
 have hm:=k.q.m
 refine ⟨k.q.set hi hx ho,fun j=>?_⟩
 by_cases e:j=i
 ·rw [J5 (by omega) e,hp,e]
 ·rw [Gb (by omega) e];exact k.a j
theorem Aui {bl:List (TCT A2)} {c:TCT D3} {t st w fl:Int} {n:Nat} {s:S2} {r:B5×Kns} (h:seF bl c t st w fl n s=.inl r) (q:RQ bl n s.1 s.2.1):RK bl n s.1 r.1 s.2.1:=by
 unfold seF at h
 cases he:(seS bl c w fl n s).2.2.1 != 0 with
 | true=>rw [he] at h;cases h
 | false =>
  rw [he] at h
  cases h
  have e0:=bne_eq_false_iff_eq.1 he
  have hG:InvH s.1 s.2.1 n n (seG bl w fl n s):=A3p
  have hA:SA (seG bl w fl n s).2.2 (seS bl c w fl n s).1:=Aly e0
  have hS:SM (seS bl c w fl n s).1:=A3l e0
  exact Bn (n:=(seG bl w fl n s).1.length) (Inv:=fun _ (x:B5)=>RK bl n s.1 x s.2.1) (fun k x x' hk hx h2=>by
   cases h2
   obtain ⟨g1,g2⟩:=hG.h k hk
   have hr:=hG.g.r _ (Fx hk (B9 cI))
   have hj:Int.toNat (B7 (seG bl w fl n s).1 k (B9 cI))<n:=by omega
   have ha:=hA k
   rw [g1] at ha
   exact hx.set hj (Q0 (q.ok _ hj) ha (hS k)) g2 ha.1) (seG bl w fl n s).1.length 0 s.1 _ (by omega) ⟨q,fun _=>rfl⟩ (Jn (B8 (scE (seG bl w fl n s).1 (seS bl c w fl n s).1) 0 (seG bl w fl n s).1.length s.1))
theorem Auj {b:TCT A2} {m:TCT Bg} {d:TCT A6} {c:TCT D3} (h:(bmV b m d c).2.1=0):M5 b (bmV b m d c).1=true∧(bmV b m d c).1.1=m.1:=by
 unfold bmV Wm at h ⊢
 cases h1:(bm b m).ok&&(Kz d.1.1 d.1.2.1 d.2.1&&Hl c.1 c.2.1) with
 | false=>rw [h1] at h;cases h
 | true =>
  rw [h1] at h
  simp only [Bool.not_true,cond_false] at h ⊢
  cases h2:Gt (bm b m).px (bm b m).py d.1.1 d.1.2.1 ((bm b m).r+d.2.1) with
  | false=>rw [h2] at h;cases h
  | true =>
   rw [h2] at h
   simp only [Bool.not_true,cond_false] at h ⊢
   cases h3:decide (dN (bm b m) d.1.1 d.1.2.1≤0) with
   | true=>rw [h3] at h;cases h
   | false =>
    rw [h3] at h
    simp only [cond_false] at h ⊢
    cases h4:Bp (W64 ((bm b m).mx-(kK (d.1.1-(bm b m).px) (d.1.2.1-(bm b m).py) (bm b m).mx (bm b m).my c.1 c.2.1 1).1)) (W64 ((bm b m).my-(kK (d.1.1-(bm b m).px) (d.1.2.1-(bm b m).py) (bm b m).mx (bm b m).my c.1 c.2.1 1).2)) with
    | false=>rw [h4] at h;cases h
    | true =>
     simp only [Bool.not_true,cond_false]
     rw [Bool.and_eq_true] at h1
     have hm:M5 b m=true:=h1.1
     exact ⟨Q0 hm ⟨rfl,rfl⟩ h4,rfl⟩
theorem Bbc {bl:List (TCT A2)} {c:TCT D3} {ps:Dss} {os:List Bool} {w fl t st:Int} {i n k:Nat} {ms0:B5} {s:MK} (hi:i<n) (q:RK bl n ms0 s.1 os):(∀ s',bpE (F2 bl i) c ps os w fl t st i k s=.inl s'→RK bl n ms0 s'.1 os)∧(∀ s',bpE (F2 bl i) c ps os w fl t st i k s=.inr (.inl s')→s'=s):=by
 unfold bpE
 cases h1:!Cp s.1 os i||Ff w fl i with
 | true=>exact ⟨(fun s' h=>by cases h),(fun s' h=>by cases h;rfl)⟩
 | false =>
  rw [Bool.or_eq_false_iff] at h1
  simp only [cond_false]
  cases h2:(bmV (F2 bl i) (A8 s.1 i) (E6 ps k) c).2.1==0 with
  | true =>
   refine ⟨(fun s' h=>?_),(fun s' h=>by cases h)⟩
   cases h
   have b:=Auj (beq_iff_eq.1 h2)
   exact q.set hi b.1 (Ta h1.1) (b.2.trans (q.a i))
  | false =>
   simp only [cond_false]
   cases h3:(bmV (F2 bl i) (A8 s.1 i) (E6 ps k) c).2.1==4 with
   | true=>exact ⟨(fun s' h=>by cases h),(fun s' h=>by cases h)⟩
   | false=>exact ⟨(fun s' h=>by cases h;exact q),(fun s' h=>by cases h)⟩
theorem Auk {bl:List (TCT A2)} {c:TCT D3} {ps:Dss} {os:List Bool} {w fl t st:Int} {i n:Nat} {ms0:B5} (hi:i<n):∀ (j k:Nat) (s s':MK),RK bl n ms0 s.1 os→A2d (B8 (bpE (F2 bl i) c ps os w fl t st i) k j s)=.inl s'→RK bl n ms0 s'.1 os
 | 0,k,s,s',q,h=>by cases h;exact q
 | j+1,k,s,s',q,h=>by
  unfold B8 at h
  have a:=Bbc (c:=c) (ps:=ps) (w:=w) (fl:=fl) (t:=t) (st:=st) (k:=k) hi q
  cases hf:bpE (F2 bl i) c ps os w fl t st i k s with
  | inl t1=>rw [hf] at h;exact Auk hi j (k+1) t1 s' (a.1 t1 hf) h
  | inr y =>
   rw [hf] at h
   cases y with
   | inl t1 =>
    have e:=a.2 t1 hf
    subst e
    cases h
    exact q
   | inr e=>cases h
theorem Bbd {bl:List (TCT A2)} {c:TCT D3} {ps:Dss} {t st w fl:Int} {n:Nat} {s:S2} {s':MK} (h:buF bl c ps t st w fl n s=.inl s') (q:RQ bl n s.1 s.2.1):RK bl n s.1 s'.1 s.2.1:=by
 unfold buF at h
 exact Bn (n:=n) (Inv:=fun _ (x:MK)=>RK bl n s.1 x.1 s.2.1) (fun i x x' hi hx h2=>Auk hi ps.length 0 x x' hx h2) n 0 (s.1,s.2.2) s' (by omega) ⟨q,fun _=>rfl⟩ h
theorem Aul {k:CT} {i:Nat} {s s':S2} (h:tkE k i s=.inl s') (q:RQ k.bl k.bl.length s.1 s.2.1):RQ k.bl k.bl.length s'.1 s'.2.1∧OL k.l k.bl.length s'.1 s'.2.1:=by
 unfold tkE at h
 cases h1:mvF k.bl k.l k.t ((i+1:Nat):Int) k.bl.length s with
 | inr e=>rw [h1] at h;cases h
 | inl s1 =>
  rw [h1] at h
  simp only at h
  have a:=Auf h1 q
  cases h2:seF k.bl k.c k.t ((i+1:Nat):Int) k.w k.fl k.bl.length s1 with
  | inr e=>rw [h2] at h;cases h
  | inl s2 =>
   rw [h2] at h
   simp only at h
   have b:=Aui h2 a.1
   cases h3:buF k.bl k.c k.ps k.t ((i+1:Nat):Int) k.w k.fl k.bl.length (s2.1,s1.2.1,s2.2) with
   | inr e=>rw [h3] at h;cases h
   | inl s3 =>
    rw [h3] at h
    cases h
    have d:=Bbd h3 b.q
    exact ⟨d.q,d.ol (b.ol a.2)⟩
theorem Bbe {k:CT} {s s':S2} (h:tkF k s=.inl s') (q:RQ k.bl k.bl.length s.1 s.2.1) (p:OL k.l k.bl.length s.1 s.2.1):RQ k.bl k.bl.length s'.1 s'.2.1∧OL k.l k.bl.length s'.1 s'.2.1:=by
 unfold tkF at h
 cases h0:k.t==4000 with
 | true=>rw [h0] at h;cases h
 | false =>
  rw [h0] at h
  simp only [cond_false] at h
  cases h1:B8 (slE k.l s.2.1 k.w k.fl) 0 k.bl.length s.1 with
  | inr e=>rw [h1] at h;cases h
  | inl ms =>
   rw [h1] at h
   have a:RQ k.bl k.bl.length ms s.2.1∧OL k.l k.bl.length ms s.2.1:=Bn (n:=k.bl.length) (Inv:=fun _ (x:B5)=>RQ k.bl k.bl.length x s.2.1∧OL k.l k.bl.length x s.2.1) (fun i x x' hi hq h=>Auc hi h hq.1 hq.2) k.bl.length 0 _ _ (by omega) ⟨q,p⟩ h1
   have h2:B8 (tkE k) 0 16 (ms,s.2.1,s.2.2)=.inl s':=h
   exact Bn (n:=16) (Inv:=fun _ (x:S2)=>RQ k.bl k.bl.length x.1 x.2.1∧OL k.l k.bl.length x.1 x.2.1) (fun i x x' _ hq h=>Aul h hq.1) 16 0 (ms,s.2.1,s.2.2) s' (by omega) a h2
theorem Aix {α:Type} {ok:Nat→α→Bool} {d:α}:∀ (l:List α) (i:Nat),(∀ j,j<l.length→ok (i+j) (B7 l j d)=true)→I0 ok i l=true
 | [],_,_=>rfl
 | x::l,i,h=>by
  unfold I0
  rw [Bool.and_eq_true]
  refine ⟨h 0 (by simp),Aix (d:=d) l (i+1) fun j hj=>?_⟩
  have:=h (j+1) (by simpa using hj)
  rw [show i+(j+1)=i+1+j by omega] at this
  exact this
theorem Aiy {α:Type} {ok:Nat→α→Bool} {d:α}:∀ (l:List α) (i:Nat),I0 ok i l=true→∀ j,j<l.length→ok (i+j) (B7 l j d)=true
 | [],_,_,j,hj=>absurd hj (Nat.not_lt_zero j)
 | x::l,i,h,j,hj=>by
  simp only [I0,Bool.and_eq_true] at h
  cases j with
  | zero=>exact h.1
  | succ j =>
   have:=Aiy (d:=d) l (i+1) h.2 j (by simpa using hj)
   rw [show i+(j+1)=i+1+j by omega]
   exact this
theorem Zn {g:TCT cGr} {s:TCT cSt} (h:StaOk g s):RQ (A3 g) (A3 g).length (msT s) (osT s)∧OL g.1 (A3 g).length (msT s) (osT s):=by
 have hm:=h.m
 have key:∀ j,j<(A3 g).length→okO g.1 (F2 (A3 g) j) (Di (osT s) j) (A8 (msT s) j)=true:=fun j hj=>by
  have:=Aiy (d:=B9 Bg) (msT s) 0 h.ok j (by omega)
  rw [Nat.zero_add] at this
  exact this
 refine ⟨⟨h.m,h.o,fun j hj=>?_,fun j hj e=>?_⟩,fun j hj e=>?_⟩
 ·have:=key j hj
  unfold okO at this
  rw [Bool.and_eq_true] at this
  exact this.1
 ·have:=key j hj
  unfold okO at this
  rw [e,Bool.and_eq_true,cond_true,Bool.and_true] at this
  exact this.2
 ·have:=key j hj
  unfold okO at this
  rw [e,Bool.and_eq_true,cond_false] at this
  exact this.2
theorem Zo {g:TCT cGr} {s:TCT cSt} (hg:groE g=0) (n1:1≤(A3 g).length) (n8:(A3 g).length≤8) (q:RQ (A3 g) (A3 g).length (msT s) (osT s)) (p:OL g.1 (A3 g).length (msT s) (osT s)) (hn:A28 (A3 g).length s=false):StaOk g s:=by
 have hm:=q.m
 refine ⟨hg,n1,n8,q.m,q.o,Aix (d:=B9 Bg) (msT s) 0 fun j hj=>?_,hn⟩
 rw [Nat.zero_add]
 show okO g.1 (F2 (A3 g) j) (Di (osT s) j) (A8 (msT s) j)=true
 unfold okO
 rw [q.ok j (by omega),Bool.true_and]
 cases e:Di (osT s) j with
 | true=>rw [cond_true,Bool.and_true];exact q.z j (by omega) e
 | false=>rw [cond_false];exact p j (by omega) e
end St
end V
end Go.Proofs.YtcfanlgpkefogaaGreat
namespace Go.Proofs.YtcfanlgpkefogaaGreat
open Go.RowKit
namespace V
namespace St
def a2 (ks:Kns) (s:S2):S2:=(s.1,s.2.1,ks++s.2.2)
def nxS (s:TCT cSt) (r:S2):TCT cSt:=(r.1,r.2.1,s.2.2.1,max 0 (W64 (s.2.2.2.1-1)),W64 (s.2.2.2.2.1+1),())
theorem Aum {n a b c:Int} (h1:0≤a∧a<n) (h2:0≤b∧b≤8) (h3:0≤c∧c≤4000):(decide (a<0)||(decide (a≥n)||(decide (b<0)||(decide (b>8)||(decide (c<0)||decide (c>4000))))))=false:=by
 simp only [Bool.or_eq_false_iff,decide_eq_false_iff_not]
 omega
theorem Bbf {n a b c:Int} (h:(decide (a<0)||(decide (a≥n)||(decide (b<0)||(decide (b>8)||(decide (c<0)||decide (c>4000))))))=false):(0≤a∧a<n)∧(0≤b∧b≤8)∧(0≤c∧c≤4000):=by
 simp only [Bool.or_eq_false_iff,decide_eq_false_iff_not] at h
 omega
theorem Bbg {b c:Int} (h2:0≤b∧b≤8) (h3:0≤c∧c≤4000) (h4:¬ c=4000):(0≤max 0 (W64 (b-1))∧max 0 (W64 (b-1))≤8)∧(0≤W64 (c+1)∧W64 (c+1)≤4000):=by
 rw [Bi (n:=b-1) (by omega) (by omega),Bi (n:=c+1) (by omega) (by omega)]
 omega
theorem Aun {g:TCT cGr} {s:TCT cSt} {ks:Kns} {r:S2} (h:StaOk g s) (ht:tkF (ctS g s) (msT s,osT s,ks)=.inl r):StaOk g (nxS s r):=by
 have a:=Zn h
 have b:=Bbe (k:=ctS g s) (s:=(msT s,osT s,ks)) ht a.1 a.2
 have hn:(0≤s.2.2.1∧s.2.2.1<((A3 g).length:Int))∧(0≤s.2.2.2.1∧s.2.2.2.1≤8)∧(0≤s.2.2.2.2.1∧s.2.2.2.2.1≤4000):=Bbf h.num
 have h4:¬ s.2.2.2.2.1=4000:=by
  intro e
  unfold tkF at ht
  rw [show ((ctS g s).t==4000)=true from beq_iff_eq.2 e] at ht
  cases ht
 have c:=Bbg hn.2.1 hn.2.2 h4
 exact Zo h.gr h.n1 h.n8 b.1 b.2 (Aum hn.1 c.1 c.2)
def trS (g:TCT cGr) (b:Int):Nat→TCT cSt→Kns→Kx→(TCT cSt×Kns×Kx)⊕Int
 | 0,s,ks,t=>bif decide ((ks.length:Int)>4096) then .inr 6 else .inl (s,ks,t++[atS s b])
 | n+1,s,ks,t=>bif decide ((ks.length:Int)>4096) then .inr 6 else bif !C2 s then match tkF (ctS g s) (msT s,osT s,ks) with
  | .inl r=>trS g b n (nxS s r) r.2.2 (t++[atS s b])
  | .inr e=>.inr e
  else .inl (s,ks,t++[atS s b])
where atS (s:TCT cSt) (b:Int):TCT cPt:=((A8 (msT s) (Int.toNat b)).1.1,(A8 (msT s) (Int.toNat b)).1.2.1,())
def rnS (g:TCT cGr):Nat→TCT cSt→Kns→(TCT cSt×Kns)⊕Int
 | 0,s,ks=>bif decide ((ks.length:Int)>4096) then .inr 6 else .inl (s,ks)
 | n+1,s,ks=>bif decide ((ks.length:Int)>4096) then .inr 6 else bif !C2 s then match tkF (ctS g s) (msT s,osT s,ks) with
  | .inl r=>rnS g n (nxS s r) r.2.2
  | .inr e=>.inr e
  else .inl (s,ks)
def gZ (g:TCT cGr) (s:TCT cSt) (stp:Int) (ks:Kns):GB:=((g.1.1,g.1.2.1,g.1.2.2.1,g.1.2.2.2.1,g.1.2.2.2.2.1,g.1.2.2.2.2.2.1.1.1,g.1.2.2.2.2.2.1.1.2.1,g.1.2.2.2.2.2.1.2.1,g.1.2.2.2.2.2.2.1,g.1.2.2.2.2.2.2.2.1,g.1.2.2.2.2.2.2.2.2.1,g.2.1,g.2.2.1.1,g.2.2.1.2.1,Fe g.1,s.1,s.2.1,s.2.2.1,s.2.2.2.1,s.2.2.2.2.1,stp,((),(),()),()),(ks,()),())
def Aep:(TCT cSt×Kns)⊕Int→TkR
 | .inl r=>((r.1.1,r.1.2.1,r.1.2.2.1,r.1.2.2.2.1,r.1.2.2.2.2.1,()),r.2,0,())
 | .inr e=>I3 e
theorem plRn_rnS {g:TCT cGr}:∀ (n:Nat) (s:TCT cSt) (stp:Int) (ks:Kns),Alx (plRn n (gZ g s stp ks))=Aep (rnS g n s ks)
 | 0,s,stp,ks=>by
  show Alx (bif decide ((ks.length:Int)>4096) then .inr 6 else .inl (gZ g s stp ks))=Aep (bif decide ((ks.length:Int)>4096) then .inr 6 else .inl (s,ks))
  cases decide ((ks.length:Int)>4096) <;> rfl
 | n+1,s,stp,ks=>by
  show Alx (bif decide ((ks.length:Int)>4096) then .inr 6 else bif !C2 (stG (gZ g s stp ks).1) then match tkF (ctS g s) (msT s,osT s,ks) with
   | .inl r=>plRn n (gZ g (nxS s r) 17 r.2.2)
   | .inr e=>.inr e
   else .inl (gZ g s stp ks))=Aep (bif decide ((ks.length:Int)>4096) then .inr 6 else bif !C2 s then match tkF (ctS g s) (msT s,osT s,ks) with
   | .inl r=>rnS g n (nxS s r) r.2.2
   | .inr e=>.inr e
   else .inl (s,ks))
  cases decide ((ks.length:Int)>4096) with
  | true=>rfl
  | false =>
   show Alx (bif !C2 s then match tkF (ctS g s) (msT s,osT s,ks) with
    | .inl r=>plRn n (gZ g (nxS s r) 17 r.2.2)
    | .inr e=>.inr e
    else .inl (gZ g s stp ks))=Aep (bif !C2 s then match tkF (ctS g s) (msT s,osT s,ks) with
    | .inl r=>rnS g n (nxS s r) r.2.2
    | .inr e=>.inr e
    else .inl (s,ks))
   cases C2 s with
   | true=>rfl
   | false =>
    simp only [Bool.not_false,cond_true]
    cases tkF (ctS g s) (msT s,osT s,ks) with
    | inr e=>rfl
    | inl r=>exact plRn_rnS n (nxS s r) 17 r.2.2
theorem Auo {g:TCT cGr} {s:TCT cSt} {n:Int}:PlayV g s n=bif Db g s != 0 then I3 (Db g s) else bif decide (n<0)||decide (n>4000) then I3 3 else Aep (rnS g (Int.toNat n) s []):=by
 unfold PlayV
 rw [show Alx (plRn (Int.toNat n) (gT g s))=Aep (rnS g (Int.toNat n) s []) from plRn_rnS (Int.toNat n) s 0 []]
def A3q:(TCT cSt×Kns×Kx)⊕Int→TrR
 | .inl r=>(r.2.2,0,())
 | .inr e=>([],e,())
theorem plTr_trS {g:TCT cGr} {b:Int}:∀ (n:Nat) (s:TCT cSt) (stp:Int) (ks:Kns) (t:Kx),Au8 (plTr b n (gZ g s stp ks) t)=A3q (trS g b n s ks t)
 | 0,s,stp,ks,t=>by
  show Au8 (bif decide ((ks.length:Int)>4096) then .inr 6 else .inl (gZ g s stp ks,t++[trS.atS s b]))=A3q (bif decide ((ks.length:Int)>4096) then .inr 6 else .inl (s,ks,t++[trS.atS s b]))
  cases decide ((ks.length:Int)>4096) <;> rfl
 | n+1,s,stp,ks,t=>by
  show Au8 (bif decide ((ks.length:Int)>4096) then .inr 6 else bif !C2 s then match tkF (ctS g s) (msT s,osT s,ks) with
   | .inl r=>plTr b n (gZ g (nxS s r) 17 r.2.2) (t++[trS.atS s b])
   | .inr e=>.inr e
   else .inl (gZ g s stp ks,t++[trS.atS s b]))=A3q (bif decide ((ks.length:Int)>4096) then .inr 6 else bif !C2 s then match tkF (ctS g s) (msT s,osT s,ks) with
   | .inl r=>trS g b n (nxS s r) r.2.2 (t++[trS.atS s b])
   | .inr e=>.inr e
   else .inl (s,ks,t++[trS.atS s b]))
  cases decide ((ks.length:Int)>4096) with
  | true=>rfl
  | false =>
   simp only [cond_false]
   cases C2 s with
   | true=>rfl
   | false =>
    simp only [Bool.not_false,cond_true]
    cases tkF (ctS g s) (msT s,osT s,ks) with
    | inr e=>rfl
    | inl r=>exact plTr_trS n (nxS s r) 17 r.2.2 (t++[trS.atS s b])
theorem Alz {g:TCT cGr} {s:TCT cSt} {b n:Int}:TrackV g s b n=bif Db g s != 0 then ([],Db g s,()) else bif decide (b<0)||(decide (b≥((A3 g).length:Int))||(decide (n<0)||decide (n>4000))) then ([],3,()) else A3q (trS g b (Int.toNat n) s [] []):=by
 unfold TrackV
 rw [show Au8 (plTr b (Int.toNat n) (gT g s) [])=A3q (trS g b (Int.toNat n) s [] []) from plTr_trS (Int.toNat n) s 0 [] []]
end St
end V
end Go.Proofs.YtcfanlgpkefogaaGreat
namespace Go.Proofs.YtcfanlgpkefogaaGreat
open Go.RowKit
namespace V
namespace St
theorem Aup {g:TCT cGr} (s:TCT cSt) (ks:Kns):rnS g 0 s ks=bif decide ((ks.length:Int)>4096) then .inr 6 else .inl (s,ks):=rfl
theorem Auq {g:TCT cGr} (n:Nat) (s:TCT cSt) (ks:Kns):rnS g (n+1) s ks=bif decide ((ks.length:Int)>4096) then .inr 6 else bif !C2 s then match tkF (ctS g s) (msT s,osT s,ks) with
  | .inl r=>rnS g n (nxS s r) r.2.2
  | .inr e=>.inr e
  else .inl (s,ks):=rfl
theorem Bbh {g:TCT cGr} {s:TCT cSt} (h:StaOk g s):Db g s=0:=by
 unfold Db vaE
 have e:Yr g s=true:=by
  unfold Yr
  rw [h.m,h.o,beq_self_eq_true];rfl
 rw [h.gr,e,h.ok,h.num];rfl
theorem Zp {g:TCT cGr} {s:TCT cSt} (h:StaOk g s):(Db g s != 0)=false:=by rw [Bbh h];rfl
end St
end V
end Go.Proofs.YtcfanlgpkefogaaGreat
namespace Go.Proofs.YtcfanlgpkefogaaGreat
open Go.RowKit
namespace V
namespace St
def tcK (i:Nat) (k:TCT cKn):Bool:=k.2.2.2.1==(i:Int)||(k.2.2.1==0&&k.2.2.2.2.1==(i:Int))
def tcB (i:Nat) (ks:Kns):Bool:=ks.any (tcK i)
theorem Q1 {i:Nat} {a b:Kns}:tcB i (a++b)=(tcB i a||tcB i b):=List.any_append
structure REL (i:Nat) (s s':S2):Prop where
 r0:tcB i s.2.2=true→tcB i s'.2.2=true
 r1:Di s.2.1 i=true→Di s'.2.1 i=true∧(A8 s'.1 i).1=(A8 s.1 i).1∧tcB i s'.2.2=tcB i s.2.2
 r2:Ga (A8 s.1 i)=true→tcB i s'.2.2=false→A8 s'.1 i=A8 s.1 i∧Di s'.2.1 i=Di s.2.1 i
theorem REL.refl {i:Nat} {s:S2}:REL i s s:=⟨id,fun h=>⟨h,rfl,rfl⟩,fun _ _=>⟨rfl,rfl⟩⟩
theorem REL.trans {i:Nat} {a b c:S2} (h:REL i a b) (k:REL i b c):REL i a c:=by
 refine ⟨fun e=>k.r0 (h.r0 e),fun e=>?_,fun e f=>?_⟩
 ·obtain ⟨x1,x2,x3⟩:=h.r1 e
  obtain ⟨y1,y2,y3⟩:=k.r1 x1
  exact ⟨y1,y2.trans x2,y3.trans x3⟩
 ·have hb:tcB i b.2.2=false:=by
   cases hc:tcB i b.2.2 with
   | false=>rfl
   | true=>rw [k.r0 hc] at f;cases f
  obtain ⟨x1,x2⟩:=h.r2 e hb
  obtain ⟨y1,y2⟩:=k.r2 (by rw [x1];exact e) f
  exact ⟨y1.trans x1,y2.trans x2⟩
theorem Io {l:B5} {i j:Nat} {x:TCT Bg} (h:¬ j=i):A8 (By l i x) j=A8 l j:=by
 unfold A8
 rcases Kq (d:=B9 Bg) l i j x with e | e
 ·rw [C6,Fq,Fq,List.getD_eq_getElem?_getD,List.getD_eq_getElem?_getD,List.getElem?_set,if_neg (fun e=>h e.symm)]
 ·exact e
theorem A3r {l:List Bool} {i j:Nat} {x:Bool} (h:¬ j=i):Di (By l i x) j=Di l j:=by
 unfold Di
 rw [C6,Fq,Fq,List.getD_eq_getElem?_getD,List.getD_eq_getElem?_getD,List.getElem?_set,if_neg (fun e=>h e.symm)]
theorem Aiz {ms:B5} {os:List Bool} {i:Nat} (h:Cp ms os i=true):Di os i=false∧Ga (A8 ms i)=false:=by
 unfold Cp at h
 rw [Bool.and_eq_true,Ahm] at h
 unfold Di A8
 exact ⟨by simpa using h.1,by simpa using h.2⟩
theorem REL.roll {i j:Nat} {ms:B5} {os:List Bool} {ks ks':Kns} {x:TCT Bg} (h:Cp ms os j=true) (hk:tcB i ks=true→tcB i ks'=true) (hn:¬ i=j→tcB i ks'=tcB i ks):REL i (ms,os,ks) (By ms j x,os,ks'):=by
 obtain ⟨h1,h2⟩:=Aiz h
 refine ⟨hk,fun e=>?_,fun e f=>?_⟩
 ·by_cases k:i=j
  ·subst k;rw [show Di os i=true from e] at h1;cases h1
  ·exact ⟨e,by show (A8 (By ms j x) i).1=_;rw [Io k],hn k⟩
 ·by_cases k:i=j
  ·subst k;rw [show Ga (A8 ms i)=true from e] at h2;cases h2
  ·exact ⟨Io k,rfl⟩
theorem B2h {l:TCT A9} {os:List Bool} {w fl:Int} {i j:Nat} {ms ms':B5} {ks:Kns} (h:slE l os w fl j ms=.inl ms'):REL i (ms,os,ks) (ms',os,ks):=by
 unfold slE at h
 cases h1:Cp ms os j with
 | false=>rw [h1] at h;cases h;exact .refl
 | true =>
  rw [h1] at h
  cases h0:Ff w fl j with
  | true=>rw [h0] at h;cases h;exact .refl
  | false =>
   rw [h0] at h
   cases h2:Fy l (A8 ms j).1 != 0 with
   | true=>rw [h2] at h;cases h
   | false =>
    rw [h2] at h
    cases h3:(Ld l (A8 ms j)).2.1 != 0 with
    | true=>rw [h3] at h;cases h
    | false=>rw [h3] at h;cases h;exact REL.roll h1 id (fun _=>rfl)
theorem B2i {bl:List (TCT A2)} {os:List Bool} {i j:Nat} {ms ms':B5} {ks:Kns} (h:stE bl os j ms=.inl ms'):REL i (ms,os,ks) (ms',os,ks):=by
 unfold stE at h
 cases h1:Cp ms os j with
 | false=>rw [h1] at h;cases h;exact .refl
 | true =>
  rw [h1] at h
  cases h3:(Mh (F2 bl j) (A8 ms j)).2.1 != 0 with
  | true=>rw [h3] at h;cases h
  | false=>rw [h3] at h;cases h;exact REL.roll h1 id (fun _=>rfl)
theorem B71 {i j:Nat} {t st k o:Int} (hk:(k==0)=false) (h:¬ i=j):tcB i [kn t st k (j:Int) o]=false:=by
 show (tcK i (kn t st k (j:Int) o)||false)=false
 unfold tcK kn
 rw [hk,Bool.false_and,Bool.or_false,Bool.or_false]
 exact beq_eq_false_iff_ne.2 (by show ¬ (j:Int)=(i:Int);omega)
theorem Xp {i:Nat} {a b:Kns} (h:tcB i a=true):tcB i (a++b)=true:=by rw [Q1,h];rfl
theorem B2j {l:TCT A9} {t st:Int} {i j:Nat} {s s':S2} (h:lvE l t st j s=.inl s'):REL i s s':=by
 unfold lvE at h
 cases h1:B7 s.2.1 j (B9 .b) with
 | true=>rw [h1] at h;cases h;exact .refl
 | false =>
  rw [h1] at h
  cases h2:onB l (A8 s.1 j).1 with
  | true=>rw [h2] at h;cases h;exact .refl
  | false =>
   rw [h2] at h
   cases h
   by_cases k:i=j
   ·subst k
    refine ⟨Xp,fun e=>?_,fun e f=>?_⟩
    ·unfold Di at e;rw [h1] at e;cases e
    ·have:tcB i (s.2.2++[kn t st 2 (i:Int) 0])=true:=by
      rw [Q1]
      have:tcB i [kn t st 2 (i:Int) 0]=true:=by
       show (tcK i (kn t st 2 (i:Int) 0)||false)=true
       unfold tcK kn
       rw [beq_self_eq_true];rfl
      rw [this,Bool.or_true]
     rw [show tcB i (s.2.2++[kn t st 2 (i:Int) 0])=false from f] at this
     cases this
   ·refine ⟨Xp,fun e=>⟨?_,?_,?_⟩,fun e f=>⟨?_,?_⟩⟩
    ·show Di (By s.2.1 j true) i=true;rw [A3r k];exact e
    ·show (A8 (By s.1 j _) i).1=_;rw [Io k]
    ·show tcB i (s.2.2++[_])=_;rw [Q1,B71 rfl k,Bool.or_false]
    ·exact Io k
    ·exact A3r k
def UN (s s':SS):Prop:=(∀ p ∈ s.2,p ∈ s'.2)∧∀ k:Nat,(∀ p ∈ s'.2,¬ p.1=(k:Int)∧¬ p.2.1=(k:Int))→A8 s'.1 k=A8 s.1 k
theorem UN.refl {s:SS}:UN s s:=⟨fun _ h=>h,fun _ _=>rfl⟩
theorem UN.trans {a b c:SS} (h:UN a b) (k:UN b c):UN a c:=⟨fun p hp=>k.1 p (h.1 p hp),fun j hj=>(k.2 j hj).trans (h.2 j fun p hp=>hj p (k.1 p hp))⟩
theorem Aur {l:List (TCT A2)} {re dr:Int} {i k:Nat} {s s':SS} (h:Fz l re dr i k s=some s'):UN s s':=by
 unfold Fz at h
 cases h1:(Ch (bAt l s.1 i) (bAt l s.1 k) re dr).2.2.1==0 with
 | true =>
  rw [h1] at h
  simp only [cond_true,Option.some.injEq] at h
  subst h
  refine ⟨fun p hp=>List.mem_append.2 (.inl hp),fun j hj=>?_⟩
  have:=hj ((i:Int),(k:Int),()) (List.mem_append.2 (.inr (List.mem_singleton.2 rfl)))
  have n1:¬ j=i:=fun e=>this.1 (by show (i:Int)=(j:Int);omega)
  have n2:¬ j=k:=fun e=>this.2 (by show (k:Int)=(j:Int);omega)
  show A8 (By (By s.1 i _) k _) j=_
  rw [Io n2,Io n1]
 | false =>
  rw [h1,cond_false] at h
  cases h2:(Ch (bAt l s.1 i) (bAt l s.1 k) re dr).2.2.1==4 with
  | true=>rw [h2] at h;simp at h
  | false=>rw [h2] at h;simp only [cond_false,Option.some.injEq] at h;subst h;exact .refl
theorem Aus {l:List (TCT A2)} {re dr:Int} {i:Nat}:∀ (f k:Nat) (s s':SS),V.inR l re dr i f k s=some s'→UN s s'
 | 0,k,s,s',h=>by rw [V.inR,Option.some.injEq] at h;subst h;exact .refl
 | f+1,k,s,s',h=>by
  rw [V.inR] at h
  cases h1:Fz l re dr i k s with
  | none=>rw [h1] at h;simp at h
  | some s1 =>
   rw [h1,Option.bind_some] at h
   exact (Aur h1).trans (Aus f (k+1) s1 s' h)
theorem Aj0 {l:List (TCT A2)} {re dr:Int}:∀ (f i:Nat) (s s':SS),Iq l re dr f i s=some s'→UN s s'
 | 0,i,s,s',h=>by rw [Mr,Option.some.injEq] at h;subst h;exact .refl
 | f+1,i,s,s',h=>by
  rw [K8] at h
  cases h1:V.inR l re dr i (l.length-(i+1)) (i+1) s with
  | none=>rw [h1] at h;simp at h
  | some s1 =>
   rw [h1,Option.bind_some] at h
   exact (Aus _ _ _ _ h1).trans (Aj0 f (i+1) s1 s' h)
theorem Am0 {l:List (TCT A2)} {s:B5} {re dr:Int} (h:(Cf l s re dr).2.2.1=0):∀ k:Nat,(∀ p ∈ (Cf l s re dr).2.1,¬ p.1=(k:Int)∧¬ p.2.1=(k:Int))→A8 (Cf l s re dr).1 k=A8 s k:=by
 unfold Cf at h ⊢
 cases h1:Mq l s != 0 with
 | true=>rw [h1,cond_true] at h;exact absurd h (bne_iff_ne.1 h1)
 | false =>
  rw [h1,cond_false] at h
  simp only [cond_false]
  cases h2:!Hl re dr with
  | true=>rw [h2] at h;cases h
  | false =>
   rw [h2,cond_false] at h
   simp only [cond_false]
   cases h3:Iq l re dr l.length 0 (s,[]) with
   | none=>rw [h3] at h;cases h
   | some s'=>exact (Aj0 _ _ _ _ h3).2
theorem Aut {W:List Int} {P:Prs} {t st:Int}:∀ (k i:Nat) (ks:Kns),i+k=P.length→∃ l:Kns,unE (B8 (kpE W P t st) i k ks)=ks++l∧(∀ x ∈ l,∃ p ∈ P,x=knP t st W p)∧∀ j,i≤j→j<P.length→knP t st W (Mi P j) ∈ l
 | 0,i,ks,h=>⟨[],(List.append_nil ks).symm,(fun x hx=>nomatch hx),fun j h1 h2=>by omega⟩
 | k+1,i,ks,h=>by
  obtain ⟨l,e1,e2,e3⟩:=Aut (W:=W) (P:=P) (t:=t) (st:=st) k (i+1) (ks++[knP t st W (Mi P i)]) (by omega)
  refine ⟨knP t st W (Mi P i)::l,?_,fun x hx=>?_,fun j h1 h2=>?_⟩
  ·show unE (B8 (kpE W P t st) (i+1) k (ks++[knP t st W (Mi P i)]))=_
   rw [e1,List.append_assoc];rfl
  ·rcases List.mem_cons.1 hx with rfl | hx
   ·exact ⟨_,Fx (by omega) _,rfl⟩
   ·exact e2 x hx
  ·by_cases e:j=i
   ·rw [e];exact List.mem_cons_self
   ·exact List.mem_cons_of_mem _ (e3 j (by omega) h2)
theorem Aa1 {a:Int} {i:Nat} (h:a=(i:Int)):Int.toNat a=i:=by omega
theorem Aa2 {a:Int} {i:Nat} (h0:0≤a) (h:Int.toNat a=i):a=(i:Int):=by omega
theorem Aeq {W:List Int} {M ms:B5} {i:Nat}:∀ (k j:Nat) (x:B5),j+k=W.length→(∀ k',k'<W.length→Int.toNat (B7 W k' (B9 cI))=i→A8 M k'=A8 ms i)→A8 x i=A8 ms i→A8 (unE (B8 (scE W M) j k x)) i=A8 ms i
 | 0,_,_,_,_,h=>h
 | k+1,j,x,hk,hw,h=>by
  show A8 (unE (B8 (scE W M) (j+1) k (By x (Int.toNat (B7 W j (B9 cI))) (A8 M j)))) i=_
  refine Aeq k (j+1) _ (by omega) hw ?_
  by_cases e:i=Int.toNat (B7 W j (B9 cI))
  ·show B7 (By x (Int.toNat (B7 W j (B9 cI))) (A8 M j)) i (B9 Bg)=A8 ms i
   rcases Kq (d:=B9 Bg) x (Int.toNat (B7 W j (B9 cI))) i (A8 M j) with e2 | e2
   ·rw [e2];exact hw j (by omega) e.symm
   ·rw [e2];exact h
  ·rw [Io e];exact h
theorem Aj1 {bl:List (TCT A2)} {c:TCT D3} {t st w fl:Int} {n i:Nat} {s:S2} {r:B5×Kns} (hn8:n≤8) (h:seF bl c t st w fl n s=.inl r):REL i s (r.1,s.2.1,r.2):=by
 unfold seF at h
 cases he:(seS bl c w fl n s).2.2.1 != 0 with
 | true=>rw [he] at h;cases h
 | false =>
  rw [he] at h
  cases h
  have e0:=bne_eq_false_iff_eq.1 he
  have hG:InvH s.1 s.2.1 n n (seG bl w fl n s):=A3p
  have hS:=V9 hn8 e0
  obtain ⟨l,k1,k2,k3⟩:=Aut (W:=(seG bl w fl n s).1) (P:=(seS bl c w fl n s).2.1) (t:=t) (st:=st) (seS bl c w fl n s).2.1.length 0 s.2.2 (by omega)
  have hk:kpV (seG bl w fl n s).1 (seS bl c w fl n s).2.1 t st s.2.2=s.2.2++l:=k1
  have hball:∀ a:Int,0≤a→a<((seG bl w fl n s).1.length:Int)→0≤B7 (seG bl w fl n s).1 (Int.toNat a) (B9 cI)∧Di s.2.1 (Int.toNat (B7 (seG bl w fl n s).1 (Int.toNat a) (B9 cI)))=false:=fun a h0 h1=>by
   have hlt:Int.toNat a<(seG bl w fl n s).1.length:=by omega
   exact ⟨(hG.g.r _ (Fx hlt (B9 cI))).1,(hG.h _ hlt).2⟩
  refine ⟨fun e=>?_,fun e=>⟨e,?_,?_⟩,fun e f=>⟨?_,rfl⟩⟩
  ·show tcB i (kpV _ _ _ _ _)=true
   rw [hk];exact Xp e
  ·have:A8 (scV (seG bl w fl n s).1 (seS bl c w fl n s).1 s.1) i=A8 s.1 i:=Aeq (ms:=s.1) (seG bl w fl n s).1.length 0 s.1 (by omega) (fun k' hk' e2=>by
    have:=(hG.h k' hk').2
    rw [e2,show Di s.2.1 i=true from e] at this
    cases this) rfl
   show (A8 (scV _ _ _) i).1=_
   rw [this]
  ·show tcB i (kpV _ _ _ _ _)=_
   rw [hk,Q1]
   have:tcB i l=false:=by
    unfold tcB
    rw [List.any_eq_false]
    intro x hx
    obtain ⟨p,hp,rfl⟩:=k2 x hx
    have pr:V8 (seG bl w fl n s).1.length p:=hS.2.2 p hp
    have b1:=hball p.1 pr.1 (Int.lt_trans pr.2.1 pr.2.2)
    have b2:=hball p.2.1 (Int.le_of_lt (Int.lt_of_le_of_lt pr.1 pr.2.1)) pr.2.2
    unfold tcK knP kn
    intro hc
    simp only [Bool.or_eq_true,Bool.and_eq_true,beq_iff_eq] at hc
    rcases hc with hc | hc
    ·have e2:Int.toNat (B7 (seG bl w fl n s).1 (Int.toNat p.1) (B9 cI))=i:=Aa1 hc
     rw [e2,show Di s.2.1 i=true from e] at b1
     cases b1.2
    ·have e2:Int.toNat (B7 (seG bl w fl n s).1 (Int.toNat p.2.1) (B9 cI))=i:=Aa1 hc.2
     rw [e2,show Di s.2.1 i=true from e] at b2
     cases b2.2
   rw [this,Bool.or_false]
  ·have f':tcB i (s.2.2++l)=false:=by rw [← hk];exact f
   rw [Q1,Bool.or_eq_false_iff] at f'
   refine Aeq (ms:=s.1) (seG bl w fl n s).1.length 0 s.1 (by omega) (fun k' hk' e2=>?_) rfl
   have g1:=(hG.h k' hk').1
   rw [e2] at g1
   rw [← g1]
   refine Am0 e0 k' fun p hp=>?_
   have pr:V8 (seG bl w fl n s).1.length p:=hS.2.2 p hp
   obtain ⟨q,hq,hpq⟩:∃ q,q<(seS bl c w fl n s).2.1.length∧Mi (seS bl c w fl n s).2.1 q=p:=by
    obtain ⟨q,hq,e⟩:=List.getElem_of_mem hp
    exact ⟨q,hq,(E8 hq (B9 Ih)).trans e⟩
   have hx:=k3 q (Nat.zero_le _) hq
   rw [hpq] at hx
   have nt:¬ tcK i (knP t st (seG bl w fl n s).1 p)=true:=by
    have:=f'.2
    unfold tcB at this
    rw [List.any_eq_false] at this
    exact this _ hx
   have hr:=(hG.g.r _ (Fx hk' (B9 cI))).1
   refine ⟨fun e3=>nt ?_,fun e3=>nt ?_⟩
   ·unfold tcK knP kn
    simp only [Bool.or_eq_true,beq_iff_eq]
    refine .inl ?_
    rw [e3,show Int.toNat (k':Int)=k' from rfl]
    exact Aa2 hr e2
   ·unfold tcK knP kn
    simp only [Bool.or_eq_true,Bool.and_eq_true,beq_iff_eq]
    refine .inr ⟨trivial,?_⟩
    rw [e3,show Int.toNat (k':Int)=k' from rfl]
    exact Aa2 hr e2
end St
end V
end Go.Proofs.YtcfanlgpkefogaaGreat
namespace Go.Proofs.YtcfanlgpkefogaaGreat
open Go.RowKit
namespace V
namespace St
theorem B2k {bl:TCT A2} {c:TCT D3} {ps:Dss} {os:List Bool} {w fl t st:Int} {i j k:Nat} {s:MK}:(∀ s',bpE bl c ps os w fl t st j k s=.inl s'→REL i (s.1,os,s.2) (s'.1,os,s'.2))∧(∀ s',bpE bl c ps os w fl t st j k s=.inr (.inl s')→s'=s):=by
 unfold bpE
 cases h1:Cp s.1 os j with
 | false=>exact ⟨(fun s' h=>by cases h),(fun s' h=>by cases h;rfl)⟩
 | true =>
  cases h0:Ff w fl j with
  | true=>exact ⟨(fun s' h=>by cases h),(fun s' h=>by cases h;rfl)⟩
  | false =>
   simp only [Bool.not_true,Bool.or_self,cond_false]
   cases h2:(bmV bl (A8 s.1 j) (E6 ps k) c).2.1==0 with
   | true =>
    refine ⟨(fun s' h=>?_),(fun s' h=>by cases h)⟩
    cases h
    exact REL.roll h1 Xp (fun hn=>by rw [Q1,B71 rfl hn,Bool.or_false])
   | false =>
    simp only [cond_false]
    cases h3:(bmV bl (A8 s.1 j) (E6 ps k) c).2.1==4 with
    | true=>exact ⟨(fun s' h=>by cases h),(fun s' h=>by cases h)⟩
    | false=>exact ⟨(fun s' h=>by cases h;exact .refl),(fun s' h=>by cases h)⟩
theorem Aj2 {bl:TCT A2} {c:TCT D3} {ps:Dss} {os:List Bool} {w fl t st:Int} {i j:Nat}:∀ (m k:Nat) (s s':MK),A2d (B8 (bpE bl c ps os w fl t st j) k m s)=.inl s'→REL i (s.1,os,s.2) (s'.1,os,s'.2)
 | 0,k,s,s',h=>by cases h;exact .refl
 | m+1,k,s,s',h=>by
  unfold B8 at h
  have a:=B2k (bl:=bl) (c:=c) (ps:=ps) (os:=os) (w:=w) (fl:=fl) (t:=t) (st:=st) (i:=i) (j:=j) (k:=k) (s:=s)
  cases hf:bpE bl c ps os w fl t st j k s with
  | inl t1=>rw [hf] at h;exact (a.1 t1 hf).trans (Aj2 m (k+1) t1 s' h)
  | inr y =>
   rw [hf] at h
   cases y with
   | inl t1 =>
    have e:=a.2 t1 hf
    subst e
    cases h
    exact .refl
   | inr e=>cases h
theorem B2l {bl:List (TCT A2)} {c:TCT D3} {ps:Dss} {t st w fl:Int} {n i:Nat} {s:S2} {s':MK} (h:buF bl c ps t st w fl n s=.inl s'):REL i s (s'.1,s.2.1,s'.2):=by
 unfold buF at h
 exact Bn (n:=n) (Inv:=fun _ (x:MK)=>REL i s (x.1,s.2.1,x.2)) (fun j x x' _ hx h2=>hx.trans (Aj2 ps.length 0 x x' h2)) n 0 (s.1,s.2.2) s' (by omega) .refl h
theorem B2m {bl:List (TCT A2)} {l:TCT A9} {t st:Int} {n i:Nat} {s s':S2} (h:mvF bl l t st n s=.inl s'):REL i s s':=by
 unfold mvF at h
 cases h1:B8 (stE bl s.2.1) 0 n s.1 with
 | inr e=>rw [h1] at h;cases h
 | inl ms =>
  rw [h1] at h
  have a:REL i s (ms,s.2.1,s.2.2):=Bn (n:=n) (Inv:=fun _ (x:B5)=>REL i s (x,s.2.1,s.2.2)) (fun j x x' _ hx h2=>hx.trans (B2i h2)) n 0 s.1 ms (by omega) .refl h1
  have h2:B8 (lvE l t st) 0 n (ms,s.2.1,s.2.2)=.inl s':=h
  exact Bn (n:=n) (Inv:=fun _ (x:S2)=>REL i s x) (fun j x x' _ hx h3=>hx.trans (B2j h3)) n 0 (ms,s.2.1,s.2.2) s' (by omega) a h2
theorem B2n {k:CT} {i j:Nat} {s s':S2} (hn8:k.bl.length≤8) (h:tkE k j s=.inl s'):REL i s s':=by
 unfold tkE at h
 cases h1:mvF k.bl k.l k.t ((j+1:Nat):Int) k.bl.length s with
 | inr e=>rw [h1] at h;cases h
 | inl s1 =>
  rw [h1] at h
  simp only at h
  have a:REL i s s1:=B2m h1
  cases h2:seF k.bl k.c k.t ((j+1:Nat):Int) k.w k.fl k.bl.length s1 with
  | inr e=>rw [h2] at h;cases h
  | inl s2 =>
   rw [h2] at h
   simp only at h
   have b:REL i s1 (s2.1,s1.2.1,s2.2):=Aj1 hn8 h2
   cases h3:buF k.bl k.c k.ps k.t ((j+1:Nat):Int) k.w k.fl k.bl.length (s2.1,s1.2.1,s2.2) with
   | inr e=>rw [h3] at h;cases h
   | inl s3 =>
    rw [h3] at h
    cases h
    have d:REL i (s2.1,s1.2.1,s2.2) (s3.1,s1.2.1,s3.2):=B2l h3
    exact (a.trans b).trans d
theorem B2o {k:CT} {i:Nat} {s s':S2} (hn8:k.bl.length≤8) (h:tkF k s=.inl s'):REL i s s':=by
 unfold tkF at h
 cases h0:k.t==4000 with
 | true=>rw [h0] at h;cases h
 | false =>
  rw [h0] at h
  simp only [cond_false] at h
  cases h1:B8 (slE k.l s.2.1 k.w k.fl) 0 k.bl.length s.1 with
  | inr e=>rw [h1] at h;cases h
  | inl ms =>
   rw [h1] at h
   have a:REL i s (ms,s.2.1,s.2.2):=Bn (n:=k.bl.length) (Inv:=fun _ (x:B5)=>REL i s (x,s.2.1,s.2.2)) (fun j x x' _ hx h2=>hx.trans (B2h h2)) k.bl.length 0 s.1 ms (by omega) .refl h1
   have h2:B8 (tkE k) 0 16 (ms,s.2.1,s.2.2)=.inl s':=h
   exact Bn (n:=16) (Inv:=fun _ (x:S2)=>REL i s x) (fun j x x' _ hx h3=>hx.trans (B2n hn8 h3)) 16 0 (ms,s.2.1,s.2.2) s' (by omega) a h2
def AS (ms:B5):Prop:=∀ j:Nat,Ga (A8 ms j)=true
theorem AS.roll {ms:B5} {os:List Bool} {j:Nat} (h:AS ms):Cp ms os j=false:=by
 cases hr:Cp ms os j with
 | false=>rfl
 | true =>
  have:=(Aiz hr).2
  rw [h j] at this
  cases this
structure NH (s s':S2):Prop where
 m:∀ j:Nat,A8 s'.1 j=A8 s.1 j
 o:s'.2.1=s.2.1
 k:s'.2.2=s.2.2
theorem NH.refl {s:S2}:NH s s:=⟨fun _=>rfl,rfl,rfl⟩
theorem NH.trans {a b c:S2} (h:NH a b) (k:NH b c):NH a c:=⟨fun j=>(k.m j).trans (h.m j),k.o.trans h.o,k.k.trans h.k⟩
theorem NH.as {a b:S2} (h:NH a b) (k:AS a.1):AS b.1:=fun j=>by rw [h.m j];exact k j
theorem NH.ol {a b:S2} {l:TCT A9} {n:Nat} (h:NH a b) (k:OL l n a.1 a.2.1):OL l n b.1 b.2.1:=fun j hj e=>by
 rw [h.m j];rw [h.o] at e;exact k j hj e
end St
end V
end Go.Proofs.YtcfanlgpkefogaaGreat
