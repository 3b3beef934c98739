import Derived.Test.YtlangijnealfjaaGreatDo
import Derived.Test.YtlangijnealfjaaGreatDw
namespace Go.Proofs.YtlangijnealfjaaGreat
open Go.RowKit
namespace V
namespace St
theorem Nm {α:Type} {d:α} {l:List α} {i j:Nat} {x:α} (hi:i<l.length):Al (B9 l i x) j d=if j=i then x else Al l j d:=by
 rw [Bf,Cf,Cf,List.getD_eq_getElem?_getD,List.getD_eq_getElem?_getD,List.getElem?_set]
 by_cases h:i=j
 ·subst h
  rw [if_pos rfl,if_pos hi,if_pos rfl];rfl
 ·rw [if_neg h,if_neg (fun e=>h e.symm)]
theorem Hq {l:Ar} {i j:Nat} {x:TCT Au} (hi:i<l.length) (h:j=i):A9 (B9 l i x) j=x:=by unfold A9;rw [Nm hi,if_pos h]
theorem Eu {l:Ar} {i j:Nat} {x:TCT Au} (hi:i<l.length) (h:¬ j=i):A9 (B9 l i x) j=A9 l j:=by unfold A9;rw [Nm hi,if_neg h]
def D1 (os:List Bool) (i:Nat):Bool:=Al os i (Ak .b)
theorem Ae3 {l:List Bool} {i j:Nat} {x:Bool} (hi:i<l.length) (h:j=i):D1 (B9 l i x) j=x:=by unfold D1;rw [Nm hi,if_pos h]
theorem A34 {l:List Bool} {i j:Nat} {x:Bool} (hi:i<l.length) (h:¬ j=i):D1 (B9 l i x) j=D1 l j:=by unfold D1;rw [Nm hi,if_neg h]
def arS (m m':TCT Au):Prop:=m'.1=m.1∧m'.2.2.1=m.2.2.1
theorem Nn {b:TCT A2} {m m':TCT Au} (h:La b m=true) (ha:arS m m') (hs:smB m'=true):La b m'=true:=by
 unfold La P8 at h ⊢
 simp only [Bool.and_eq_true] at h ⊢
 rw [ha.1,ha.2]
 exact ⟨h.1,h.2.1,hs,h.2.2.2⟩
structure RQ (bl:List (TCT A2)) (n:Nat) (ms:Ar) (os:List Bool):Prop where
 m:ms.length=n
 o:os.length=n
 ok:∀ j,j<n→La (Ef bl j) (A9 ms j)=true
 z:∀ j,j<n→D1 os j=true→Ey (A9 ms j)=true
def OL (l:TCT A8) (n:Nat) (ms:Ar) (os:List Bool):Prop:=∀ j,j<n→D1 os j=false→onB l (A9 ms j).1=true
theorem Qd {ms:Ar} {os:List Bool} {i:Nat} (h:(!C6 ms os i)=false):D1 os i=false:=by
 unfold C6 at h
 unfold D1
 cases ho:Al os i (Ak .b) with
 | false=>rfl
 | true=>rw [ho] at h;cases h
theorem RQ.set {bl:List (TCT A2)} {n i:Nat} {ms:Ar} {os:List Bool} {x:TCT Au} (q:RQ bl n ms os) (hi:i<n) (hx:La (Ef bl i) x=true) (ho:D1 os i=false):RQ bl n (B9 ms i x) os:=by
 have hm:=q.m
 refine ⟨(C2 _ _ _).trans hm,q.o,fun j hj=>?_,fun j hj h=>?_⟩
 ·by_cases e:j=i
  ·rw [Hq (by omega) e,e];exact hx
  ·rw [Eu (by omega) e];exact q.ok j hj
 ·by_cases e:j=i
  ·rw [e,ho] at h;cases h
  ·rw [Eu (by omega) e];exact q.z j hj h
theorem OL.set {l:TCT A8} {n i:Nat} {ms:Ar} {os:List Bool} {x:TCT Au} (q:OL l n ms os) (hm:ms.length=n) (hi:i<n) (hx:x.1=(A9 ms i).1):OL l n (B9 ms i x) os:=fun j hj h=>by
 by_cases e:j=i
 ·rw [Hq (by omega) e,hx,← e];exact q j hj h
 ·rw [Eu (by omega) e];exact q j hj h
theorem Avq {p n A:Int} (hn:0<n) (h1 : -(A*n)≤p) (h2:p≤A*n) : -A≤Int.tdiv p n∧Int.tdiv p n≤A:=by
 have key:∀ q:Int,0≤q→q≤A*n→0≤q / n∧q / n≤A:=fun q h0 h=>by
  refine ⟨Int.ediv_nonneg h0 (by omega),?_⟩
  have:q / n<A+1:=Int.ediv_lt_of_lt_mul hn (by rw [Int.add_mul,Int.one_mul];omega)
  omega
 by_cases hp:0≤p
 ·rw [Int.tdiv_eq_ediv_of_nonneg hp]
  have:=key p hp h2
  omega
 ·have e:p = -(-p):=by omega
  rw [e,Int.neg_tdiv,Int.tdiv_eq_ediv_of_nonneg (show 0 ≤ -p by omega)]
  have:=key (-p) (by omega) (by omega)
  omega
theorem A6e {x a n A:Int} (hx : -A≤x∧x≤A) (hA:0≤A) (ha:0≤a∧a≤n) (hn:0<n) : -A≤Int.tdiv (x*a) n∧Int.tdiv (x*a) n≤A:=by
 have h1:x*a≤A*a:=Int.mul_le_mul_of_nonneg_right hx.2 ha.1
 have h2:(-A)*a≤x*a:=Int.mul_le_mul_of_nonneg_right hx.1 ha.1
 have h3:A*a≤A*n:=Int.mul_le_mul_of_nonneg_left ha.2 hA
 rw [Int.neg_mul] at h2
 exact Avq hn (by omega) (by omega)
theorem Wr {x y:Int} (hx : -16777216≤x∧x≤16777216) (hy : -16777216≤y∧y≤16777216):B1 x y=true:=by
 unfold B1 B6
 rw [decide_eq_false (show ¬ x < -16777216 by omega),decide_eq_false (show ¬ 16777216<x by omega),decide_eq_false (show ¬ y < -16777216 by omega),decide_eq_false (show ¬ 16777216<y by omega)]
 rfl
theorem Em {x y:Int} (h:B1 x y=true):(-16777216≤x∧x≤16777216)∧(-16777216≤y∧y≤16777216):=by
 unfold B1 at h
 simp only [Bool.and_eq_true,Bool.not_eq_true'] at h
 exact ⟨Eb h.1,Eb h.2⟩
theorem A6f {x y l:Int} (h:(M5 x y l).2.1=0):B1 (M5 x y l).1.1 (M5 x y l).1.2.1=true:=by
 unfold M5 at h ⊢
 cases h1:B1 x y with
 | false=>rw [h1] at h;cases h
 | true =>
  rw [h1] at h
  simp only [Bool.not_true,cond_false] at h ⊢
  cases h2:B6 l 0 33554432 with
  | true=>rw [h2] at h;cases h
  | false =>
   rw [h2] at h
   simp only [cond_false] at h ⊢
   cases h3:decide (slN x y≤8*l) with
   | true=>rfl
   | false =>
    have b:=Em h1
    have c:=Eb h2
    have d:=of_decide_eq_false h3
    simp only [cond_false]
    exact Wr (A6e b.1 (by omega) ⟨by omega,by omega⟩ (by omega)) (A6e b.2 (by omega) ⟨by omega,by omega⟩ (by omega))
theorem B2j {l:TCT A8} {bl:List (TCT A2)} {os:List Bool} {w fl:Int} {i n:Nat} {ms ms':Ar} (hi:i<n) (h:slE l os w fl i ms=.inl ms') (q:RQ bl n ms os) (p:OL l n ms os):RQ bl n ms' os∧OL l n ms' os:=by
 unfold slE at h
 cases h1:!C6 ms os i||Fj w fl i with
 | true=>rw [h1] at h;cases h;exact ⟨q,p⟩
 | false =>
  rw [h1] at h
  rw [Bool.or_eq_false_iff] at h1
  cases h2:Hy l (A9 ms i).1 != 0 with
  | true=>rw [h2] at h;cases h
  | false =>
   rw [h2] at h
   cases h3:(P2 l (A9 ms i)).2.1 != 0 with
   | true=>rw [h3] at h;cases h
   | false =>
    rw [h3] at h
    cases h
    have hs:smB (Agn l (A9 ms i))=true:=A6f (bne_eq_false_iff_eq.1 h3)
    exact ⟨q.set hi (Nn (q.ok i hi) ⟨rfl,rfl⟩ hs) (Qd h1.1),p.set q.m hi rfl⟩
theorem Azg (n m:Int) (hm:1≤m) : -(32*m)≤DR n (64*m)∧DR n (64*m)≤32*m-1:=by
 unfold DR DW
 have a:=Int.ediv_mul_le (2*n+64*m) (show 2*(64*m)≠0 by omega)
 have b:=Int.lt_ediv_add_one_mul_self (2*n+64*m) (show 0<2*(64*m) by omega)
 generalize (2*n+64*m) / (2*(64*m))=w at a b
 rw [Int.add_mul,Int.one_mul] at b
 have e:w*(2*(64*m))=2*(w*(64*m)):=by grind
 rw [e] at a b
 omega
theorem Aan {x lo hi:Int} (h:lo≤x∧x≤hi):B6 x lo hi=false:=by
 unfold B6
 rw [decide_eq_false (show ¬ x<lo by omega),decide_eq_false (show ¬ hi<x by omega)];rfl
theorem Ao7 {b:TCT A2} {m:TCT Au} (h:(Oh (bm b m)).2.1=0):La b (Oh (bm b m)).1=true:=by
 unfold Oh at h ⊢
 cases h1:(bm b m).ok with
 | false=>rw [h1] at h;cases h
 | true =>
  rw [h1] at h
  simp only [Bool.not_true,cond_false] at h ⊢
  cases h2:fpt (sX (bm b m)) (sY (bm b m)) with
  | false=>rw [h2] at h;cases h
  | true =>
   simp only [Bool.not_true,cond_false]
   have f:=Bm.fit h1
   unfold Bm.ok P8 at h1
   simp only [Bool.and_eq_true] at h1
   unfold La P8
   simp only [Bool.and_eq_true,Bool.not_eq_true']
   have hm:1≤b.1:=Int.le_trans (by decide) f.m1
   exact ⟨h1.1,h2,h1.2.2.1,Aan (Azg _ b.1 hm),Aan (Azg _ b.1 hm)⟩
theorem B2k {bl:List (TCT A2)} {os:List Bool} {i n:Nat} {ms ms':Ar} (hi:i<n) (h:stE bl os i ms=.inl ms') (q:RQ bl n ms os):RQ bl n ms' os:=by
 unfold stE at h
 cases h1:!C6 ms os i with
 | true=>rw [h1] at h;cases h;exact q
 | false =>
  rw [h1] at h
  cases h3:(Qb (Ef bl i) (A9 ms i)).2.1 != 0 with
  | true=>rw [h3] at h;cases h
  | false =>
   rw [h3] at h
   cases h
   exact q.set hi (Ao7 (bne_eq_false_iff_eq.1 h3)) (Qd h1)
theorem B2l {l:TCT A8} {bl:List (TCT A2)} {t st:Int} {i n:Nat} {s s':S2} (hi:i<n) (h:lvE l t st i s=.inl s') (q:RQ bl n s.1 s.2.1) (p:OL l i s.1 s.2.1):RQ bl n s'.1 s'.2.1∧OL l (i+1) s'.1 s'.2.1:=by
 have hm:=q.m
 have ho:=q.o
 unfold lvE at h
 cases h1:Al s.2.1 i (Ak .b) with
 | true =>
  rw [h1] at h
  cases h
  refine ⟨q,fun j hj e=>?_⟩
  by_cases k:j=i
  ·rw [k] at e;unfold D1 at e;rw [h1] at e;cases e
  ·exact p j (by omega) e
 | false =>
  rw [h1] at h
  cases h2:onB l (A9 s.1 i).1 with
  | true =>
   rw [h2] at h
   cases h
   refine ⟨q,fun j hj e=>?_⟩
   by_cases k:j=i
   ·rw [k];exact h2
   ·exact p j (by omega) e
  | false =>
   rw [h2] at h
   cases h
   refine ⟨⟨(C2 _ _ _).trans hm,(C2 _ _ _).trans ho,fun j hj=>?_,fun j hj e=>?_⟩,fun j hj e=>?_⟩
   ·by_cases k:j=i
    ·rw [Hq (by omega) k,k]
     exact Nn (q.ok i hi) ⟨rfl,rfl⟩ rfl
    ·rw [Eu (by omega) k];exact q.ok j hj
   ·by_cases k:j=i
    ·rw [Hq (by omega) k];rfl
    ·rw [A34 (by omega) k] at e
     rw [Eu (by omega) k];exact q.z j hj e
   ·by_cases k:j=i
    ·rw [Ae3 (by omega) k] at e;cases e
    ·rw [A34 (by omega) k] at e
     rw [Eu (by omega) k];exact p j (by omega) e
theorem Ao8 {bl:List (TCT A2)} {l:TCT A8} {t st:Int} {n:Nat} {s s':S2} (h:mvF bl l t st n s=.inl s') (q:RQ bl n s.1 s.2.1):RQ bl n s'.1 s'.2.1∧OL l n s'.1 s'.2.1:=by
 unfold mvF at h
 cases h1:An (stE bl s.2.1) 0 n s.1 with
 | inr e=>rw [h1] at h;cases h
 | inl ms =>
  rw [h1] at h
  have a:RQ bl n ms s.2.1:=Az (n:=n) (Inv:=fun _ (x:Ar)=>RQ bl n x s.2.1) (fun i x x' hi hq h=>B2k hi h hq) n 0 _ _ (by omega) q h1
  have h2:An (lvE l t st) 0 n (ms,s.2.1,s.2.2)=.inl s':=h
  exact Az (n:=n) (Inv:=fun i (x:S2)=>RQ bl n x.1 x.2.1∧OL l i x.1 x.2.1) (fun i x x' hi hq h=>B2l hi h hq.1 hq.2) n 0 (ms,s.2.1,s.2.2) s' (by omega) ⟨a,fun j hj=>absurd hj (Nat.not_lt_zero j)⟩ h2
end St
end V
end Go.Proofs.YtlangijnealfjaaGreat
namespace Go.Proofs.YtlangijnealfjaaGreat
open Go.RowKit
namespace V
namespace St
def SA (G M:Ar):Prop:=∀ j:Nat,arS (A9 G j) (A9 M j)
theorem SA.set {G M:Ar} {i:Nat} {x:TCT Au} (h:SA G M) (hx:arS (A9 M i) x):SA G (B9 M i x):=fun j=>by
 by_cases hi:i<M.length
 ·by_cases e:j=i
  ·rw [Hq hi e,e]
   exact ⟨hx.1.trans (h i).1,hx.2.trans (h i).2⟩
  ·rw [Eu hi e];exact h j
 ·have:B9 M i x=M:=by rw [Bf];exact List.set_eq_of_length_le (Nat.le_of_not_lt hi)
  rw [this];exact h j
theorem B2m {a b:Bm} {k:Of} (h:(Gf a b k).2.2.1=0):(Gf a b k).1.1=(a.px,a.py,())∧(Gf a b k).1.2.2.1=(a.rx,a.ry,())∧(Gf a b k).2.1.1=(b.px,b.py,())∧(Gf a b k).2.1.2.2.1=(b.rx,b.ry,()):=by
 unfold Gf at h ⊢
 cases h1:k.2.1 != 0 with
 | true=>rw [h1] at h;exact absurd h (bne_iff_ne.1 h1)
 | false =>
  rw [h1] at h
  simp only [cond_false] at h ⊢
  cases h2:B1 (W64 (a.mx-k.1.1)) (W64 (a.my-k.1.2.1)) with
  | false=>rw [h2] at h;cases h
  | true =>
   rw [h2] at h
   simp only [Bool.not_true,cond_false] at h ⊢
   cases h3:B1 (W64 (b.mx+k.1.1)) (W64 (b.my+k.1.2.1)) with
   | false=>rw [h3] at h;cases h
   | true=>exact ⟨rfl,rfl,rfl,rfl⟩
theorem Ao9 {l:List (TCT A2)} {re dr:Int} {i k:Nat} {G:Ar} {s s':SS} (hik:¬ k=i) (h:Ed l re dr i k s=some s') (hs:SA G s.1):SA G s'.1:=by
 unfold Ed at h
 cases h1:(Bj (bAt l s.1 i) (bAt l s.1 k) re dr).2.2.1==0 with
 | true =>
  rw [h1] at h
  simp only [cond_true,Option.some.injEq] at h
  subst h
  obtain ⟨b1,b2,b3,b4⟩:=B2m (a:=bAt l s.1 i) (b:=bAt l s.1 k) (k:=Ge (bAt l s.1 i) (bAt l s.1 k) re dr) (beq_iff_eq.1 h1)
  have ha:arS (A9 s.1 i) (Bj (bAt l s.1 i) (bAt l s.1 k) re dr).1:=⟨b1,b2⟩
  have hb:arS (A9 s.1 k) (Bj (bAt l s.1 i) (bAt l s.1 k) re dr).2.1:=⟨b3,b4⟩
  refine SA.set (SA.set hs ha) ?_
  by_cases hi:i<s.1.length
  ·rw [Eu hi hik];exact hb
  ·have:B9 s.1 i (Bj (bAt l s.1 i) (bAt l s.1 k) re dr).1=s.1:=by rw [Bf];exact List.set_eq_of_length_le (Nat.le_of_not_lt hi)
   rw [this];exact hb
 | false =>
  rw [h1,cond_false] at h
  cases h2:(Bj (bAt l s.1 i) (bAt l s.1 k) re dr).2.2.1==4 with
  | true=>rw [h2] at h;simp at h
  | false=>rw [h2] at h;simp only [cond_false,Option.some.injEq] at h;subst h;exact hs
theorem Aoa {l:List (TCT A2)} {re dr:Int} {i:Nat} {G:Ar}:∀ (f k:Nat) (s s':SS),i<k→V.inR l re dr i f k s=some s'→SA G s.1→SA G s'.1
 | 0,k,s,s',_,h,hs=>by rw [V.inR,Option.some.injEq] at h;subst h;exact hs
 | f+1,k,s,s',hk,h,hs=>by
  rw [V.inR] at h
  cases h1:Ed l re dr i k s with
  | none=>rw [h1] at h;simp at h
  | some s1 =>
   rw [h1,Option.bind_some] at h
   exact Aoa f (k+1) s1 s' (by omega) h (Ao9 (by omega) h1 hs)
theorem Ae4 {l:List (TCT A2)} {re dr:Int} {G:Ar}:∀ (f i:Nat) (s s':SS),Hd l re dr f i s=some s'→SA G s.1→SA G s'.1
 | 0,i,s,s',h,hs=>by rw [Iw,Option.some.injEq] at h;subst h;exact hs
 | f+1,i,s,s',h,hs=>by
  rw [He] at h
  cases h1:V.inR l re dr i (l.length-(i+1)) (i+1) s with
  | none=>rw [h1] at h;simp at h
  | some s1 =>
   rw [h1,Option.bind_some] at h
   exact Ae4 f (i+1) s1 s' h (Aoa _ _ _ _ (by omega) h1 hs)
theorem Agx {l:List (TCT A2)} {s:Ar} {re dr:Int} (h:(Bi l s re dr).2.2.1=0):SA s (Bi l s re dr).1:=by
 unfold Bi at h ⊢
 cases h1:Kn l s != 0 with
 | true=>rw [h1,cond_true] at h;exact absurd h (bne_iff_ne.1 h1)
 | false =>
  rw [h1,cond_false] at h
  simp only [cond_false]
  cases h2:!Gl re dr with
  | true=>rw [h2] at h;cases h
  | false =>
   rw [h2,cond_false] at h
   simp only [cond_false]
   cases h3:Hd l re dr l.length 0 (s,[]) with
   | none=>rw [h3] at h;cases h
   | some s' =>
    have hz:SA s ((s,[]):SS).1:=fun j=>⟨rfl,rfl⟩
    exact Ae4 _ _ _ _ h3 hz
structure InvH (ms:Ar) (os:List Bool) (n i:Nat) (s:GA):Prop where
 g:InvG n i s
 h:∀ k:Nat,k<s.1.length→A9 s.2.2 k=A9 ms (Int.toNat (Al s.1 k (Ak cI)))∧D1 os (Int.toNat (Al s.1 k (Ak cI)))=false
theorem Fu {α:Type} {d:α} {l:List α} {x:α} {k:Nat} (h:k<l.length+1):Al (l++[x]) k d=if k=l.length then x else Al l k d:=by
 rw [Cf,Cf,List.getD_eq_getElem?_getD,List.getD_eq_getElem?_getD]
 by_cases e:k=l.length
 ·rw [if_pos e,e,List.getElem?_append_right (Nat.le_refl _),Nat.sub_self];rfl
 ·rw [if_neg e,List.getElem?_append_left (by omega)]
theorem B7q {bl:List (TCT A2)} {ms:Ar} {os:List Bool} {w fl:Int} {n:Nat} (i:Nat) (s s':GA) (hi:i<n) (h:InvH ms os n i s) (h2:gaE bl ms os w fl i s=.inl s'):InvH ms os n (i+1) s':=by
 have hg:=Aab i s s' hi h.g h2
 refine ⟨hg,?_⟩
 unfold gaE at h2
 cases hc:!Al os i (Ak .b)&&!Fj w fl i with
 | false=>rw [hc] at h2;cases h2;exact h.h
 | true =>
  rw [hc] at h2
  cases h2
  have hm:=h.g.m
  have ho:D1 os i=false:=by
   unfold D1
   rw [Bool.and_eq_true] at hc
   simpa using hc.1
  intro k hk
  have hk2:k<(s.1++[(i:Int)]).length:=hk
  have hk':k<s.1.length+1:=by rw [List.length_append,List.length_singleton] at hk2;exact hk2
  show Al (s.2.2++[A9 ms i]) k (Ak Au)=A9 ms (Int.toNat (Al (s.1++[(i:Int)]) k (Ak cI)))∧D1 os (Int.toNat (Al (s.1++[(i:Int)]) k (Ak cI)))=false
  rw [Fu (by omega),Fu hk']
  by_cases e:k=s.1.length
  ·rw [if_pos e,if_pos (by omega)]
   exact ⟨rfl,ho⟩
  ·rw [if_neg e,if_neg (by omega)]
   exact h.h k (by omega)
theorem Ts {bl:List (TCT A2)} {ms:Ar} {os:List Bool} {w fl:Int} {n:Nat}:InvH ms os n n (gaV bl w fl n ms os) :=
 Az (n:=n) (Inv:=InvH ms os n) (fun i s s' hi h h2=>B7q (bl:=bl) (w:=w) (fl:=fl) i s s' hi h h2) n 0 ([],[],[]) _ (by omega) ⟨⟨rfl,rfl,Nat.le_refl _,fun w hw=>nomatch hw⟩,fun k hk=>absurd hk (Nat.not_lt_zero k)⟩ (I8 (An (gaE bl ms os w fl) 0 n ([],[],[])))
structure RK (bl:List (TCT A2)) (n:Nat) (ms0 ms:Ar) (os:List Bool):Prop where
 q:RQ bl n ms os
 a:∀ j:Nat,(A9 ms j).1=(A9 ms0 j).1
theorem RK.ol {bl:List (TCT A2)} {l:TCT A8} {n:Nat} {ms0 ms:Ar} {os:List Bool} (k:RK bl n ms0 ms os) (p:OL l n ms0 os):OL l n ms os:=fun j hj h=>by rw [k.a j];exact p j hj h
theorem RK.set {bl:List (TCT A2)} {n i:Nat} {ms0 ms:Ar} {os:List Bool} {x:TCT Au} (k:RK bl n ms0 ms os) (hi:i<n) (hx:La (Ef bl i) x=true) (ho:D1 os i=false) (hp:x.1=(A9 ms0 i).1):RK bl n ms0 (B9 ms i x) os:=by
 have hm:=k.q.m
 refine ⟨k.q.set hi hx ho,fun j=>?_⟩
 by_cases e:j=i
 ·rw [Hq (by omega) e,hp,e]
 ·rw [Eu (by omega) e];exact k.a j
theorem Aob {bl:List (TCT A2)} {c:TCT Cc} {t st w fl:Int} {n:Nat} {s:S2} {r:Ar×Kns} (h:seF bl c t st w fl n s=.inl r) (q:RQ bl n s.1 s.2.1):RK bl n s.1 r.1 s.2.1:=by
 unfold seF at h
 cases he:(seS bl c w fl n s).2.2.1 != 0 with
 | true=>rw [he] at h;cases h
 | false =>
  rw [he] at h
  cases h
  have e0:=bne_eq_false_iff_eq.1 he
  have hG:InvH s.1 s.2.1 n n (seG bl w fl n s):=Ts
  have hA:SA (seG bl w fl n s).2.2 (seS bl c w fl n s).1:=Agx e0
  have hS:SM (seS bl c w fl n s).1:=A19 e0
  exact Az (n:=(seG bl w fl n s).1.length) (Inv:=fun _ (x:Ar)=>RK bl n s.1 x s.2.1) (fun k x x' hk hx h2=>by
   cases h2
   obtain ⟨g1,g2⟩:=hG.h k hk
   have hr:=hG.g.r _ (Ck hk (Ak cI))
   have hj:Int.toNat (Al (seG bl w fl n s).1 k (Ak cI))<n:=by omega
   have ha:=hA k
   rw [g1] at ha
   exact hx.set hj (Nn (q.ok _ hj) ha (hS k)) g2 ha.1) (seG bl w fl n s).1.length 0 s.1 _ (by omega) ⟨q,fun _=>rfl⟩ (I8 (An (scE (seG bl w fl n s).1 (seS bl c w fl n s).1) 0 (seG bl w fl n s).1.length s.1))
theorem Aoc {b:TCT A2} {m:TCT Au} {d:TCT A1} {c:TCT Cc} (h:(bmV b m d c).2.1=0):La b (bmV b m d c).1=true∧(bmV b m d c).1.1=m.1:=by
 unfold bmV A7g at h ⊢
 cases h1:(bm b m).ok&&(K9 d.1.1 d.1.2.1 d.2.1&&Gl c.1 c.2.1) with
 | false=>rw [h1] at h;cases h
 | true =>
  rw [h1] at h
  simp only [Bool.not_true,cond_false] at h ⊢
  cases h2:G9 (bm b m).px (bm b m).py d.1.1 d.1.2.1 ((bm b m).r+d.2.1) with
  | false=>rw [h2] at h;cases h
  | true =>
   rw [h2] at h
   simp only [Bool.not_true,cond_false] at h ⊢
   cases h3:decide (dN (bm b m) d.1.1 d.1.2.1≤0) with
   | true=>rw [h3] at h;cases h
   | false =>
    rw [h3] at h
    simp only [cond_false] at h ⊢
    cases h4:B1 (W64 ((bm b m).mx-(kK (d.1.1-(bm b m).px) (d.1.2.1-(bm b m).py) (bm b m).mx (bm b m).my c.1 c.2.1 1).1)) (W64 ((bm b m).my-(kK (d.1.1-(bm b m).px) (d.1.2.1-(bm b m).py) (bm b m).mx (bm b m).my c.1 c.2.1 1).2)) with
    | false=>rw [h4] at h;cases h
    | true =>
     simp only [Bool.not_true,cond_false]
     rw [Bool.and_eq_true] at h1
     have hm:La b m=true:=h1.1
     exact ⟨Nn hm ⟨rfl,rfl⟩ h4,rfl⟩
theorem B2n {bl:List (TCT A2)} {c:TCT Cc} {ps:Dss} {os:List Bool} {w fl t st:Int} {i n k:Nat} {ms0:Ar} {s:MK} (hi:i<n) (q:RK bl n ms0 s.1 os):(∀ s',bpE (Ef bl i) c ps os w fl t st i k s=.inl s'→RK bl n ms0 s'.1 os)∧(∀ s',bpE (Ef bl i) c ps os w fl t st i k s=.inr (.inl s')→s'=s):=by
 unfold bpE
 cases h1:!C6 s.1 os i||Fj w fl i with
 | true=>exact ⟨(fun s' h=>by cases h),(fun s' h=>by cases h;rfl)⟩
 | false =>
  rw [Bool.or_eq_false_iff] at h1
  simp only [cond_false]
  cases h2:(bmV (Ef bl i) (A9 s.1 i) (Ff ps k) c).2.1==0 with
  | true =>
   refine ⟨(fun s' h=>?_),(fun s' h=>by cases h)⟩
   cases h
   have b:=Aoc (beq_iff_eq.1 h2)
   exact q.set hi b.1 (Qd h1.1) (b.2.trans (q.a i))
  | false =>
   simp only [cond_false]
   cases h3:(bmV (Ef bl i) (A9 s.1 i) (Ff ps k) c).2.1==4 with
   | true=>exact ⟨(fun s' h=>by cases h),(fun s' h=>by cases h)⟩
   | false=>exact ⟨(fun s' h=>by cases h;exact q),(fun s' h=>by cases h)⟩
theorem Aod {bl:List (TCT A2)} {c:TCT Cc} {ps:Dss} {os:List Bool} {w fl t st:Int} {i n:Nat} {ms0:Ar} (hi:i<n):∀ (j k:Nat) (s s':MK),RK bl n ms0 s.1 os→Ux (An (bpE (Ef bl i) c ps os w fl t st i) k j s)=.inl s'→RK bl n ms0 s'.1 os
 | 0,k,s,s',q,h=>by cases h;exact q
 | j+1,k,s,s',q,h=>by
  unfold An at h
  have a:=B2n (c:=c) (ps:=ps) (w:=w) (fl:=fl) (t:=t) (st:=st) (k:=k) hi q
  cases hf:bpE (Ef bl i) c ps os w fl t st i k s with
  | inl t1=>rw [hf] at h;exact Aod hi j (k+1) t1 s' (a.1 t1 hf) h
  | inr y =>
   rw [hf] at h
   cases y with
   | inl t1 =>
    have e:=a.2 t1 hf
    subst e
    cases h
    exact q
   | inr e=>cases h
theorem B2o {bl:List (TCT A2)} {c:TCT Cc} {ps:Dss} {t st w fl:Int} {n:Nat} {s:S2} {s':MK} (h:buF bl c ps t st w fl n s=.inl s') (q:RQ bl n s.1 s.2.1):RK bl n s.1 s'.1 s.2.1:=by
 unfold buF at h
 exact Az (n:=n) (Inv:=fun _ (x:MK)=>RK bl n s.1 x.1 s.2.1) (fun i x x' hi hx h2=>Aod hi ps.length 0 x x' hx h2) n 0 (s.1,s.2.2) s' (by omega) ⟨q,fun _=>rfl⟩ h
theorem Aao {k:CT} {i:Nat} {s s':S2} (h:tkE k i s=.inl s') (q:RQ k.bl k.bl.length s.1 s.2.1):RQ k.bl k.bl.length s'.1 s'.2.1∧OL k.l k.bl.length s'.1 s'.2.1:=by
 unfold tkE at h
 cases h1:mvF k.bl k.l k.t ((i+1:Nat):Int) k.bl.length s with
 | inr e=>rw [h1] at h;cases h
 | inl s1 =>
  rw [h1] at h
  simp only at h
  have a:=Ao8 h1 q
  cases h2:seF k.bl k.c k.t ((i+1:Nat):Int) k.w k.fl k.bl.length s1 with
  | inr e=>rw [h2] at h;cases h
  | inl s2 =>
   rw [h2] at h
   simp only at h
   have b:=Aob h2 a.1
   cases h3:buF k.bl k.c k.ps k.t ((i+1:Nat):Int) k.w k.fl k.bl.length (s2.1,s1.2.1,s2.2) with
   | inr e=>rw [h3] at h;cases h
   | inl s3 =>
    rw [h3] at h
    cases h
    have d:=B2o h3 b.q
    exact ⟨d.q,d.ol (b.ol a.2)⟩
theorem B2p {k:CT} {s s':S2} (h:tkF k s=.inl s') (q:RQ k.bl k.bl.length s.1 s.2.1) (p:OL k.l k.bl.length s.1 s.2.1):RQ k.bl k.bl.length s'.1 s'.2.1∧OL k.l k.bl.length s'.1 s'.2.1:=by
 unfold tkF at h
 cases h0:k.t==4000 with
 | true=>rw [h0] at h;cases h
 | false =>
  rw [h0] at h
  simp only [cond_false] at h
  cases h1:An (slE k.l s.2.1 k.w k.fl) 0 k.bl.length s.1 with
  | inr e=>rw [h1] at h;cases h
  | inl ms =>
   rw [h1] at h
   have a:RQ k.bl k.bl.length ms s.2.1∧OL k.l k.bl.length ms s.2.1:=Az (n:=k.bl.length) (Inv:=fun _ (x:Ar)=>RQ k.bl k.bl.length x s.2.1∧OL k.l k.bl.length x s.2.1) (fun i x x' hi hq h=>B2j hi h hq.1 hq.2) k.bl.length 0 _ _ (by omega) ⟨q,p⟩ h1
   have h2:An (tkE k) 0 16 (ms,s.2.1,s.2.2)=.inl s':=h
   exact Az (n:=16) (Inv:=fun _ (x:S2)=>RQ k.bl k.bl.length x.1 x.2.1∧OL k.l k.bl.length x.1 x.2.1) (fun i x x' _ hq h=>Aao h hq.1) 16 0 (ms,s.2.1,s.2.2) s' (by omega) a h2
theorem Ae5 {α:Type} {ok:Nat→α→Bool} {d:α}:∀ (l:List α) (i:Nat),(∀ j,j<l.length→ok (i+j) (Al l j d)=true)→I6 ok i l=true
 | [],_,_=>rfl
 | x::l,i,h=>by
  unfold I6
  rw [Bool.and_eq_true]
  refine ⟨h 0 (by simp),Ae5 (d:=d) l (i+1) fun j hj=>?_⟩
  have:=h (j+1) (by simpa using hj)
  rw [show i+(j+1)=i+1+j by omega] at this
  exact this
theorem Ae6 {α:Type} {ok:Nat→α→Bool} {d:α}:∀ (l:List α) (i:Nat),I6 ok i l=true→∀ j,j<l.length→ok (i+j) (Al l j d)=true
 | [],_,_,j,hj=>absurd hj (Nat.not_lt_zero j)
 | x::l,i,h,j,hj=>by
  simp only [I6,Bool.and_eq_true] at h
  cases j with
  | zero=>exact h.1
  | succ j =>
   have:=Ae6 (d:=d) l (i+1) h.2 j (by simpa using hj)
   rw [show i+(j+1)=i+1+j by omega]
   exact this
theorem Ws {g:TCT cGr} {s:TCT cSt} (h:StaOk g s):RQ (A5 g) (A5 g).length (msT s) (osT s)∧OL g.1 (A5 g).length (msT s) (osT s):=by
 have hm:=h.m
 have key:∀ j,j<(A5 g).length→okO g.1 (Ef (A5 g) j) (D1 (osT s) j) (A9 (msT s) j)=true:=fun j hj=>by
  have:=Ae6 (d:=Ak Au) (msT s) 0 h.ok j (by omega)
  rw [Nat.zero_add] at this
  exact this
 refine ⟨⟨h.m,h.o,fun j hj=>?_,fun j hj e=>?_⟩,fun j hj e=>?_⟩
 ·have:=key j hj
  unfold okO at this
  rw [Bool.and_eq_true] at this
  exact this.1
 ·have:=key j hj
  unfold okO at this
  rw [e,Bool.and_eq_true,cond_true,Bool.and_true] at this
  exact this.2
 ·have:=key j hj
  unfold okO at this
  rw [e,Bool.and_eq_true,cond_false] at this
  exact this.2
theorem Wt {g:TCT cGr} {s:TCT cSt} (hg:groE g=0) (n1:1≤(A5 g).length) (n8:(A5 g).length≤8) (q:RQ (A5 g) (A5 g).length (msT s) (osT s)) (p:OL g.1 (A5 g).length (msT s) (osT s)) (hn:A2v (A5 g).length s=false):StaOk g s:=by
 have hm:=q.m
 refine ⟨hg,n1,n8,q.m,q.o,Ae5 (d:=Ak Au) (msT s) 0 fun j hj=>?_,hn⟩
 rw [Nat.zero_add]
 show okO g.1 (Ef (A5 g) j) (D1 (osT s) j) (A9 (msT s) j)=true
 unfold okO
 rw [q.ok j (by omega),Bool.true_and]
 cases e:D1 (osT s) j with
 | true=>rw [cond_true,Bool.and_true];exact q.z j (by omega) e
 | false=>rw [cond_false];exact p j (by omega) e
end St
end V
end Go.Proofs.YtlangijnealfjaaGreat
namespace Go.Proofs.YtlangijnealfjaaGreat
open Go.RowKit
namespace V
namespace St
def a2 (ks:Kns) (s:S2):S2:=(s.1,s.2.1,ks++s.2.2)
def nxS (s:TCT cSt) (r:S2):TCT cSt:=(r.1,r.2.1,s.2.2.1,max 0 (W64 (s.2.2.2.1-1)),W64 (s.2.2.2.2.1+1),())
theorem B2q {n a b c:Int} (h1:0≤a∧a<n) (h2:0≤b∧b≤8) (h3:0≤c∧c≤4000):(decide (a<0)||(decide (a≥n)||(decide (b<0)||(decide (b>8)||(decide (c<0)||decide (c>4000))))))=false:=by
 simp only [Bool.or_eq_false_iff,decide_eq_false_iff_not]
 omega
theorem B2r {n a b c:Int} (h:(decide (a<0)||(decide (a≥n)||(decide (b<0)||(decide (b>8)||(decide (c<0)||decide (c>4000))))))=false):(0≤a∧a<n)∧(0≤b∧b≤8)∧(0≤c∧c≤4000):=by
 simp only [Bool.or_eq_false_iff,decide_eq_false_iff_not] at h
 omega
theorem B2s {b c:Int} (h2:0≤b∧b≤8) (h3:0≤c∧c≤4000) (h4:¬ c=4000):(0≤max 0 (W64 (b-1))∧max 0 (W64 (b-1))≤8)∧(0≤W64 (c+1)∧W64 (c+1)≤4000):=by
 rw [B5 (n:=b-1) (by omega) (by omega),B5 (n:=c+1) (by omega) (by omega)]
 omega
theorem A6g {g:TCT cGr} {s:TCT cSt} {ks:Kns} {r:S2} (h:StaOk g s) (ht:tkF (ctS g s) (msT s,osT s,ks)=.inl r):StaOk g (nxS s r):=by
 have a:=Ws h
 have b:=B2p (k:=ctS g s) (s:=(msT s,osT s,ks)) ht a.1 a.2
 have hn:(0≤s.2.2.1∧s.2.2.1<((A5 g).length:Int))∧(0≤s.2.2.2.1∧s.2.2.2.1≤8)∧(0≤s.2.2.2.2.1∧s.2.2.2.2.1≤4000):=B2r h.num
 have h4:¬ s.2.2.2.2.1=4000:=by
  intro e
  unfold tkF at ht
  rw [show ((ctS g s).t==4000)=true from beq_iff_eq.2 e] at ht
  cases ht
 have c:=B2s hn.2.1 hn.2.2 h4
 exact Wt h.gr h.n1 h.n8 b.1 b.2 (B2q hn.1 c.1 c.2)
end St
end V
end Go.Proofs.YtlangijnealfjaaGreat
namespace Go.Proofs.YtlangijnealfjaaGreat
open Go.RowKit
namespace V
namespace St
theorem Aoe {g:TCT cGr} {s:TCT cSt} (h:StaOk g s):Gq g s=0:=by
 unfold Gq vaE
 have e:A01 g s=true:=by
  unfold A01
  rw [h.m,h.o,beq_self_eq_true];rfl
 rw [h.gr,e,h.ok,h.num];rfl
theorem B2t {g:TCT cGr} {s:TCT cSt} (h:StaOk g s):(Gq g s != 0)=false:=by rw [Aoe h];rfl
end St
end V
end Go.Proofs.YtlangijnealfjaaGreat
namespace Go.Proofs.YtlangijnealfjaaGreat
open Go.RowKit
namespace V
namespace St
def tcK (i:Nat) (k:TCT cKn):Bool:=k.2.2.2.1==(i:Int)||(k.2.2.1==0&&k.2.2.2.2.1==(i:Int))
def tcB (i:Nat) (ks:Kns):Bool:=ks.any (tcK i)
theorem No {i:Nat} {a b:Kns}:tcB i (a++b)=(tcB i a||tcB i b):=List.any_append
structure REL (i:Nat) (s s':S2):Prop where
 r0:tcB i s.2.2=true→tcB i s'.2.2=true
 r1:D1 s.2.1 i=true→D1 s'.2.1 i=true∧(A9 s'.1 i).1=(A9 s.1 i).1∧tcB i s'.2.2=tcB i s.2.2
 r2:Ey (A9 s.1 i)=true→tcB i s'.2.2=false→A9 s'.1 i=A9 s.1 i∧D1 s'.2.1 i=D1 s.2.1 i
theorem REL.refl {i:Nat} {s:S2}:REL i s s:=⟨id,fun h=>⟨h,rfl,rfl⟩,fun _ _=>⟨rfl,rfl⟩⟩
theorem REL.trans {i:Nat} {a b c:S2} (h:REL i a b) (k:REL i b c):REL i a c:=by
 refine ⟨fun e=>k.r0 (h.r0 e),fun e=>?_,fun e f=>?_⟩
 ·obtain ⟨x1,x2,x3⟩:=h.r1 e
  obtain ⟨y1,y2,y3⟩:=k.r1 x1
  exact ⟨y1,y2.trans x2,y3.trans x3⟩
 ·have hb:tcB i b.2.2=false:=by
   cases hc:tcB i b.2.2 with
   | false=>rfl
   | true=>rw [k.r0 hc] at f;cases f
  obtain ⟨x1,x2⟩:=h.r2 e hb
  obtain ⟨y1,y2⟩:=k.r2 (by rw [x1];exact e) f
  exact ⟨y1.trans x1,y2.trans x2⟩
theorem Hb {l:Ar} {i j:Nat} {x:TCT Au} (h:¬ j=i):A9 (B9 l i x) j=A9 l j:=by
 unfold A9
 rcases J9 (d:=Ak Au) l i j x with e | e
 ·rw [Bf,Cf,Cf,List.getD_eq_getElem?_getD,List.getD_eq_getElem?_getD,List.getElem?_set,if_neg (fun e=>h e.symm)]
 ·exact e
theorem A1a {l:List Bool} {i j:Nat} {x:Bool} (h:¬ j=i):D1 (B9 l i x) j=D1 l j:=by
 unfold D1
 rw [Bf,Cf,Cf,List.getD_eq_getElem?_getD,List.getD_eq_getElem?_getD,List.getElem?_set,if_neg (fun e=>h e.symm)]
theorem Ae7 {ms:Ar} {os:List Bool} {i:Nat} (h:C6 ms os i=true):D1 os i=false∧Ey (A9 ms i)=false:=by
 unfold C6 at h
 rw [Bool.and_eq_true,Adk] at h
 unfold D1 A9
 exact ⟨by simpa using h.1,by simpa using h.2⟩
theorem REL.roll {i j:Nat} {ms:Ar} {os:List Bool} {ks ks':Kns} {x:TCT Au} (h:C6 ms os j=true) (hk:tcB i ks=true→tcB i ks'=true) (hn:¬ i=j→tcB i ks'=tcB i ks):REL i (ms,os,ks) (B9 ms j x,os,ks'):=by
 obtain ⟨h1,h2⟩:=Ae7 h
 refine ⟨hk,fun e=>?_,fun e f=>?_⟩
 ·by_cases k:i=j
  ·subst k;rw [show D1 os i=true from e] at h1;cases h1
  ·exact ⟨e,by show (A9 (B9 ms j x) i).1=_;rw [Hb k],hn k⟩
 ·by_cases k:i=j
  ·subst k;rw [show Ey (A9 ms i)=true from e] at h2;cases h2
  ·exact ⟨Hb k,rfl⟩
theorem Avr {l:TCT A8} {os:List Bool} {w fl:Int} {i j:Nat} {ms ms':Ar} {ks:Kns} (h:slE l os w fl j ms=.inl ms'):REL i (ms,os,ks) (ms',os,ks):=by
 unfold slE at h
 cases h1:C6 ms os j with
 | false=>rw [h1] at h;cases h;exact .refl
 | true =>
  rw [h1] at h
  cases h0:Fj w fl j with
  | true=>rw [h0] at h;cases h;exact .refl
  | false =>
   rw [h0] at h
   cases h2:Hy l (A9 ms j).1 != 0 with
   | true=>rw [h2] at h;cases h
   | false =>
    rw [h2] at h
    cases h3:(P2 l (A9 ms j)).2.1 != 0 with
    | true=>rw [h3] at h;cases h
    | false=>rw [h3] at h;cases h;exact REL.roll h1 id (fun _=>rfl)
theorem Avs {bl:List (TCT A2)} {os:List Bool} {i j:Nat} {ms ms':Ar} {ks:Kns} (h:stE bl os j ms=.inl ms'):REL i (ms,os,ks) (ms',os,ks):=by
 unfold stE at h
 cases h1:C6 ms os j with
 | false=>rw [h1] at h;cases h;exact .refl
 | true =>
  rw [h1] at h
  cases h3:(Qb (Ef bl j) (A9 ms j)).2.1 != 0 with
  | true=>rw [h3] at h;cases h
  | false=>rw [h3] at h;cases h;exact REL.roll h1 id (fun _=>rfl)
theorem Azh {i j:Nat} {t st k o:Int} (hk:(k==0)=false) (h:¬ i=j):tcB i [kn t st k (j:Int) o]=false:=by
 show (tcK i (kn t st k (j:Int) o)||false)=false
 unfold tcK kn
 rw [hk,Bool.false_and,Bool.or_false,Bool.or_false]
 exact beq_eq_false_iff_ne.2 (by show ¬ (j:Int)=(i:Int);omega)
theorem V7 {i:Nat} {a b:Kns} (h:tcB i a=true):tcB i (a++b)=true:=by rw [No,h];rfl
theorem Avt {l:TCT A8} {t st:Int} {i j:Nat} {s s':S2} (h:lvE l t st j s=.inl s'):REL i s s':=by
 unfold lvE at h
 cases h1:Al s.2.1 j (Ak .b) with
 | true=>rw [h1] at h;cases h;exact .refl
 | false =>
  rw [h1] at h
  cases h2:onB l (A9 s.1 j).1 with
  | true=>rw [h2] at h;cases h;exact .refl
  | false =>
   rw [h2] at h
   cases h
   by_cases k:i=j
   ·subst k
    refine ⟨V7,fun e=>?_,fun e f=>?_⟩
    ·unfold D1 at e;rw [h1] at e;cases e
    ·have:tcB i (s.2.2++[kn t st 2 (i:Int) 0])=true:=by
      rw [No]
      have:tcB i [kn t st 2 (i:Int) 0]=true:=by
       show (tcK i (kn t st 2 (i:Int) 0)||false)=true
       unfold tcK kn
       rw [beq_self_eq_true];rfl
      rw [this,Bool.or_true]
     rw [show tcB i (s.2.2++[kn t st 2 (i:Int) 0])=false from f] at this
     cases this
   ·refine ⟨V7,fun e=>⟨?_,?_,?_⟩,fun e f=>⟨?_,?_⟩⟩
    ·show D1 (B9 s.2.1 j true) i=true;rw [A1a k];exact e
    ·show (A9 (B9 s.1 j _) i).1=_;rw [Hb k]
    ·show tcB i (s.2.2++[_])=_;rw [No,Azh rfl k,Bool.or_false]
    ·exact Hb k
    ·exact A1a k
def UN (s s':SS):Prop:=(∀ p ∈ s.2,p ∈ s'.2)∧∀ k:Nat,(∀ p ∈ s'.2,¬ p.1=(k:Int)∧¬ p.2.1=(k:Int))→A9 s'.1 k=A9 s.1 k
theorem UN.refl {s:SS}:UN s s:=⟨fun _ h=>h,fun _ _=>rfl⟩
theorem UN.trans {a b c:SS} (h:UN a b) (k:UN b c):UN a c:=⟨fun p hp=>k.1 p (h.1 p hp),fun j hj=>(k.2 j hj).trans (h.2 j fun p hp=>hj p (k.1 p hp))⟩
theorem Aof {l:List (TCT A2)} {re dr:Int} {i k:Nat} {s s':SS} (h:Ed l re dr i k s=some s'):UN s s':=by
 unfold Ed at h
 cases h1:(Bj (bAt l s.1 i) (bAt l s.1 k) re dr).2.2.1==0 with
 | true =>
  rw [h1] at h
  simp only [cond_true,Option.some.injEq] at h
  subst h
  refine ⟨fun p hp=>List.mem_append.2 (.inl hp),fun j hj=>?_⟩
  have:=hj ((i:Int),(k:Int),()) (List.mem_append.2 (.inr (List.mem_singleton.2 rfl)))
  have n1:¬ j=i:=fun e=>this.1 (by show (i:Int)=(j:Int);omega)
  have n2:¬ j=k:=fun e=>this.2 (by show (k:Int)=(j:Int);omega)
  show A9 (B9 (B9 s.1 i _) k _) j=_
  rw [Hb n2,Hb n1]
 | false =>
  rw [h1,cond_false] at h
  cases h2:(Bj (bAt l s.1 i) (bAt l s.1 k) re dr).2.2.1==4 with
  | true=>rw [h2] at h;simp at h
  | false=>rw [h2] at h;simp only [cond_false,Option.some.injEq] at h;subst h;exact .refl
theorem Aog {l:List (TCT A2)} {re dr:Int} {i:Nat}:∀ (f k:Nat) (s s':SS),V.inR l re dr i f k s=some s'→UN s s'
 | 0,k,s,s',h=>by rw [V.inR,Option.some.injEq] at h;subst h;exact .refl
 | f+1,k,s,s',h=>by
  rw [V.inR] at h
  cases h1:Ed l re dr i k s with
  | none=>rw [h1] at h;simp at h
  | some s1 =>
   rw [h1,Option.bind_some] at h
   exact (Aof h1).trans (Aog f (k+1) s1 s' h)
theorem Ae8 {l:List (TCT A2)} {re dr:Int}:∀ (f i:Nat) (s s':SS),Hd l re dr f i s=some s'→UN s s'
 | 0,i,s,s',h=>by rw [Iw,Option.some.injEq] at h;subst h;exact .refl
 | f+1,i,s,s',h=>by
  rw [He] at h
  cases h1:V.inR l re dr i (l.length-(i+1)) (i+1) s with
  | none=>rw [h1] at h;simp at h
  | some s1 =>
   rw [h1,Option.bind_some] at h
   exact (Aog _ _ _ _ h1).trans (Ae8 f (i+1) s1 s' h)
theorem A1b {l:List (TCT A2)} {s:Ar} {re dr:Int} (h:(Bi l s re dr).2.2.1=0):∀ k:Nat,(∀ p ∈ (Bi l s re dr).2.1,¬ p.1=(k:Int)∧¬ p.2.1=(k:Int))→A9 (Bi l s re dr).1 k=A9 s k:=by
 unfold Bi at h ⊢
 cases h1:Kn l s != 0 with
 | true=>rw [h1,cond_true] at h;exact absurd h (bne_iff_ne.1 h1)
 | false =>
  rw [h1,cond_false] at h
  simp only [cond_false]
  cases h2:!Gl re dr with
  | true=>rw [h2] at h;cases h
  | false =>
   rw [h2,cond_false] at h
   simp only [cond_false]
   cases h3:Hd l re dr l.length 0 (s,[]) with
   | none=>rw [h3] at h;cases h
   | some s'=>exact (Ae8 _ _ _ _ h3).2
theorem Aoh {W:List Int} {P:Prs} {t st:Int}:∀ (k i:Nat) (ks:Kns),i+k=P.length→∃ l:Kns,unE (An (kpE W P t st) i k ks)=ks++l∧(∀ x ∈ l,∃ p ∈ P,x=knP t st W p)∧∀ j,i≤j→j<P.length→knP t st W (Km P j) ∈ l
 | 0,i,ks,h=>⟨[],(List.append_nil ks).symm,(fun x hx=>nomatch hx),fun j h1 h2=>by omega⟩
 | k+1,i,ks,h=>by
  obtain ⟨l,e1,e2,e3⟩:=Aoh (W:=W) (P:=P) (t:=t) (st:=st) k (i+1) (ks++[knP t st W (Km P i)]) (by omega)
  refine ⟨knP t st W (Km P i)::l,?_,fun x hx=>?_,fun j h1 h2=>?_⟩
  ·show unE (An (kpE W P t st) (i+1) k (ks++[knP t st W (Km P i)]))=_
   rw [e1,List.append_assoc];rfl
  ·rcases List.mem_cons.1 hx with rfl | hx
   ·exact ⟨_,Ck (by omega) _,rfl⟩
   ·exact e2 x hx
  ·by_cases e:j=i
   ·rw [e];exact List.mem_cons_self
   ·exact List.mem_cons_of_mem _ (e3 j (by omega) h2)
theorem A6h {a:Int} {i:Nat} (h:a=(i:Int)):Int.toNat a=i:=by omega
theorem A6i {a:Int} {i:Nat} (h0:0≤a) (h:Int.toNat a=i):a=(i:Int):=by omega
theorem A35 {W:List Int} {M ms:Ar} {i:Nat}:∀ (k j:Nat) (x:Ar),j+k=W.length→(∀ k',k'<W.length→Int.toNat (Al W k' (Ak cI))=i→A9 M k'=A9 ms i)→A9 x i=A9 ms i→A9 (unE (An (scE W M) j k x)) i=A9 ms i
 | 0,_,_,_,_,h=>h
 | k+1,j,x,hk,hw,h=>by
  show A9 (unE (An (scE W M) (j+1) k (B9 x (Int.toNat (Al W j (Ak cI))) (A9 M j)))) i=_
  refine A35 k (j+1) _ (by omega) hw ?_
  by_cases e:i=Int.toNat (Al W j (Ak cI))
  ·show Al (B9 x (Int.toNat (Al W j (Ak cI))) (A9 M j)) i (Ak Au)=A9 ms i
   rcases J9 (d:=Ak Au) x (Int.toNat (Al W j (Ak cI))) i (A9 M j) with e2 | e2
   ·rw [e2];exact hw j (by omega) e.symm
   ·rw [e2];exact h
  ·rw [Hb e];exact h
theorem A36 {bl:List (TCT A2)} {c:TCT Cc} {t st w fl:Int} {n i:Nat} {s:S2} {r:Ar×Kns} (hn8:n≤8) (h:seF bl c t st w fl n s=.inl r):REL i s (r.1,s.2.1,r.2):=by
 unfold seF at h
 cases he:(seS bl c w fl n s).2.2.1 != 0 with
 | true=>rw [he] at h;cases h
 | false =>
  rw [he] at h
  cases h
  have e0:=bne_eq_false_iff_eq.1 he
  have hG:InvH s.1 s.2.1 n n (seG bl w fl n s):=Ts
  have hS:=S9 hn8 e0
  obtain ⟨l,k1,k2,k3⟩:=Aoh (W:=(seG bl w fl n s).1) (P:=(seS bl c w fl n s).2.1) (t:=t) (st:=st) (seS bl c w fl n s).2.1.length 0 s.2.2 (by omega)
  have hk:kpV (seG bl w fl n s).1 (seS bl c w fl n s).2.1 t st s.2.2=s.2.2++l:=k1
  have hball:∀ a:Int,0≤a→a<((seG bl w fl n s).1.length:Int)→0≤Al (seG bl w fl n s).1 (Int.toNat a) (Ak cI)∧D1 s.2.1 (Int.toNat (Al (seG bl w fl n s).1 (Int.toNat a) (Ak cI)))=false:=fun a h0 h1=>by
   have hlt:Int.toNat a<(seG bl w fl n s).1.length:=by omega
   exact ⟨(hG.g.r _ (Ck hlt (Ak cI))).1,(hG.h _ hlt).2⟩
  refine ⟨fun e=>?_,fun e=>⟨e,?_,?_⟩,fun e f=>⟨?_,rfl⟩⟩
  ·show tcB i (kpV _ _ _ _ _)=true
   rw [hk];exact V7 e
  ·have:A9 (scV (seG bl w fl n s).1 (seS bl c w fl n s).1 s.1) i=A9 s.1 i:=A35 (ms:=s.1) (seG bl w fl n s).1.length 0 s.1 (by omega) (fun k' hk' e2=>by
    have:=(hG.h k' hk').2
    rw [e2,show D1 s.2.1 i=true from e] at this
    cases this) rfl
   show (A9 (scV _ _ _) i).1=_
   rw [this]
  ·show tcB i (kpV _ _ _ _ _)=_
   rw [hk,No]
   have:tcB i l=false:=by
    unfold tcB
    rw [List.any_eq_false]
    intro x hx
    obtain ⟨p,hp,rfl⟩:=k2 x hx
    have pr:S8 (seG bl w fl n s).1.length p:=hS.2.2 p hp
    have b1:=hball p.1 pr.1 (Int.lt_trans pr.2.1 pr.2.2)
    have b2:=hball p.2.1 (Int.le_of_lt (Int.lt_of_le_of_lt pr.1 pr.2.1)) pr.2.2
    unfold tcK knP kn
    intro hc
    simp only [Bool.or_eq_true,Bool.and_eq_true,beq_iff_eq] at hc
    rcases hc with hc | hc
    ·have e2:Int.toNat (Al (seG bl w fl n s).1 (Int.toNat p.1) (Ak cI))=i:=A6h hc
     rw [e2,show D1 s.2.1 i=true from e] at b1
     cases b1.2
    ·have e2:Int.toNat (Al (seG bl w fl n s).1 (Int.toNat p.2.1) (Ak cI))=i:=A6h hc.2
     rw [e2,show D1 s.2.1 i=true from e] at b2
     cases b2.2
   rw [this,Bool.or_false]
  ·have f':tcB i (s.2.2++l)=false:=by rw [← hk];exact f
   rw [No,Bool.or_eq_false_iff] at f'
   refine A35 (ms:=s.1) (seG bl w fl n s).1.length 0 s.1 (by omega) (fun k' hk' e2=>?_) rfl
   have g1:=(hG.h k' hk').1
   rw [e2] at g1
   rw [← g1]
   refine A1b e0 k' fun p hp=>?_
   have pr:S8 (seG bl w fl n s).1.length p:=hS.2.2 p hp
   obtain ⟨q,hq,hpq⟩:∃ q,q<(seS bl c w fl n s).2.1.length∧Km (seS bl c w fl n s).2.1 q=p:=by
    obtain ⟨q,hq,e⟩:=List.getElem_of_mem hp
    exact ⟨q,hq,(D2 hq (Ak Gz)).trans e⟩
   have hx:=k3 q (Nat.zero_le _) hq
   rw [hpq] at hx
   have nt:¬ tcK i (knP t st (seG bl w fl n s).1 p)=true:=by
    have:=f'.2
    unfold tcB at this
    rw [List.any_eq_false] at this
    exact this _ hx
   have hr:=(hG.g.r _ (Ck hk' (Ak cI))).1
   refine ⟨fun e3=>nt ?_,fun e3=>nt ?_⟩
   ·unfold tcK knP kn
    simp only [Bool.or_eq_true,beq_iff_eq]
    refine .inl ?_
    rw [e3,show Int.toNat (k':Int)=k' from rfl]
    exact A6i hr e2
   ·unfold tcK knP kn
    simp only [Bool.or_eq_true,Bool.and_eq_true,beq_iff_eq]
    refine .inr ⟨trivial,?_⟩
    rw [e3,show Int.toNat (k':Int)=k' from rfl]
    exact A6i hr e2
end St
end V
end Go.Proofs.YtlangijnealfjaaGreat
namespace Go.Proofs.YtlangijnealfjaaGreat
open Go.RowKit
namespace V
namespace St
theorem Avu {bl:TCT A2} {c:TCT Cc} {ps:Dss} {os:List Bool} {w fl t st:Int} {i j k:Nat} {s:MK}:(∀ s',bpE bl c ps os w fl t st j k s=.inl s'→REL i (s.1,os,s.2) (s'.1,os,s'.2))∧(∀ s',bpE bl c ps os w fl t st j k s=.inr (.inl s')→s'=s):=by
 unfold bpE
 cases h1:C6 s.1 os j with
 | false=>exact ⟨(fun s' h=>by cases h),(fun s' h=>by cases h;rfl)⟩
 | true =>
  cases h0:Fj w fl j with
  | true=>exact ⟨(fun s' h=>by cases h),(fun s' h=>by cases h;rfl)⟩
  | false =>
   simp only [Bool.not_true,Bool.or_self,cond_false]
   cases h2:(bmV bl (A9 s.1 j) (Ff ps k) c).2.1==0 with
   | true =>
    refine ⟨(fun s' h=>?_),(fun s' h=>by cases h)⟩
    cases h
    exact REL.roll h1 V7 (fun hn=>by rw [No,Azh rfl hn,Bool.or_false])
   | false =>
    simp only [cond_false]
    cases h3:(bmV bl (A9 s.1 j) (Ff ps k) c).2.1==4 with
    | true=>exact ⟨(fun s' h=>by cases h),(fun s' h=>by cases h)⟩
    | false=>exact ⟨(fun s' h=>by cases h;exact .refl),(fun s' h=>by cases h)⟩
theorem Ae9 {bl:TCT A2} {c:TCT Cc} {ps:Dss} {os:List Bool} {w fl t st:Int} {i j:Nat}:∀ (m k:Nat) (s s':MK),Ux (An (bpE bl c ps os w fl t st j) k m s)=.inl s'→REL i (s.1,os,s.2) (s'.1,os,s'.2)
 | 0,k,s,s',h=>by cases h;exact .refl
 | m+1,k,s,s',h=>by
  unfold An at h
  have a:=Avu (bl:=bl) (c:=c) (ps:=ps) (os:=os) (w:=w) (fl:=fl) (t:=t) (st:=st) (i:=i) (j:=j) (k:=k) (s:=s)
  cases hf:bpE bl c ps os w fl t st j k s with
  | inl t1=>rw [hf] at h;exact (a.1 t1 hf).trans (Ae9 m (k+1) t1 s' h)
  | inr y =>
   rw [hf] at h
   cases y with
   | inl t1 =>
    have e:=a.2 t1 hf
    subst e
    cases h
    exact .refl
   | inr e=>cases h
theorem Avv {bl:List (TCT A2)} {c:TCT Cc} {ps:Dss} {t st w fl:Int} {n i:Nat} {s:S2} {s':MK} (h:buF bl c ps t st w fl n s=.inl s'):REL i s (s'.1,s.2.1,s'.2):=by
 unfold buF at h
 exact Az (n:=n) (Inv:=fun _ (x:MK)=>REL i s (x.1,s.2.1,x.2)) (fun j x x' _ hx h2=>hx.trans (Ae9 ps.length 0 x x' h2)) n 0 (s.1,s.2.2) s' (by omega) .refl h
theorem Avw {bl:List (TCT A2)} {l:TCT A8} {t st:Int} {n i:Nat} {s s':S2} (h:mvF bl l t st n s=.inl s'):REL i s s':=by
 unfold mvF at h
 cases h1:An (stE bl s.2.1) 0 n s.1 with
 | inr e=>rw [h1] at h;cases h
 | inl ms =>
  rw [h1] at h
  have a:REL i s (ms,s.2.1,s.2.2):=Az (n:=n) (Inv:=fun _ (x:Ar)=>REL i s (x,s.2.1,s.2.2)) (fun j x x' _ hx h2=>hx.trans (Avs h2)) n 0 s.1 ms (by omega) .refl h1
  have h2:An (lvE l t st) 0 n (ms,s.2.1,s.2.2)=.inl s':=h
  exact Az (n:=n) (Inv:=fun _ (x:S2)=>REL i s x) (fun j x x' _ hx h3=>hx.trans (Avt h3)) n 0 (ms,s.2.1,s.2.2) s' (by omega) a h2
theorem Avx {k:CT} {i j:Nat} {s s':S2} (hn8:k.bl.length≤8) (h:tkE k j s=.inl s'):REL i s s':=by
 unfold tkE at h
 cases h1:mvF k.bl k.l k.t ((j+1:Nat):Int) k.bl.length s with
 | inr e=>rw [h1] at h;cases h
 | inl s1 =>
  rw [h1] at h
  simp only at h
  have a:REL i s s1:=Avw h1
  cases h2:seF k.bl k.c k.t ((j+1:Nat):Int) k.w k.fl k.bl.length s1 with
  | inr e=>rw [h2] at h;cases h
  | inl s2 =>
   rw [h2] at h
   simp only at h
   have b:REL i s1 (s2.1,s1.2.1,s2.2):=A36 hn8 h2
   cases h3:buF k.bl k.c k.ps k.t ((j+1:Nat):Int) k.w k.fl k.bl.length (s2.1,s1.2.1,s2.2) with
   | inr e=>rw [h3] at h;cases h
   | inl s3 =>
    rw [h3] at h
    cases h
    have d:REL i (s2.1,s1.2.1,s2.2) (s3.1,s1.2.1,s3.2):=Avv h3
    exact (a.trans b).trans d
theorem Avy {k:CT} {i:Nat} {s s':S2} (hn8:k.bl.length≤8) (h:tkF k s=.inl s'):REL i s s':=by
 unfold tkF at h
 cases h0:k.t==4000 with
 | true=>rw [h0] at h;cases h
 | false =>
  rw [h0] at h
  simp only [cond_false] at h
  cases h1:An (slE k.l s.2.1 k.w k.fl) 0 k.bl.length s.1 with
  | inr e=>rw [h1] at h;cases h
  | inl ms =>
   rw [h1] at h
   have a:REL i s (ms,s.2.1,s.2.2):=Az (n:=k.bl.length) (Inv:=fun _ (x:Ar)=>REL i s (x,s.2.1,s.2.2)) (fun j x x' _ hx h2=>hx.trans (Avr h2)) k.bl.length 0 s.1 ms (by omega) .refl h1
   have h2:An (tkE k) 0 16 (ms,s.2.1,s.2.2)=.inl s':=h
   exact Az (n:=16) (Inv:=fun _ (x:S2)=>REL i s x) (fun j x x' _ hx h3=>hx.trans (Avx hn8 h3)) 16 0 (ms,s.2.1,s.2.2) s' (by omega) a h2
def AS (ms:Ar):Prop:=∀ j:Nat,Ey (A9 ms j)=true
theorem AS.roll {ms:Ar} {os:List Bool} {j:Nat} (h:AS ms):C6 ms os j=false:=by
 cases hr:C6 ms os j with
 | false=>rfl
 | true =>
  have:=(Ae7 hr).2
  rw [h j] at this
  cases this
theorem Agy {a b:Bm} {re dr:Int} (h1:a.mx=0) (h2:a.my=0) (h3:b.mx=0) (h4:b.my=0):(Ge a b re dr).2.1=2∨(Ge a b re dr).2.1=5∨(Ge a b re dr).2.1=10:=by
 unfold Ge
 cases !(a.ok&&(b.ok&&Gl re dr)) with
 | true=>exact .inl rfl
 | false =>
  cases !G9 a.px a.py b.px b.py (a.r+b.r) with
  | true=>exact .inr (.inl rfl)
  | false =>
   have e:uN a b=0:=by
    unfold uN uX uY
    rw [h1,h2,h3,h4]
    simp
   rw [e]
   exact .inr (.inr rfl)
theorem Aap {l:List (TCT A2)} {re dr:Int} {i k:Nat} {s:SS} (h:AS s.1):Ed l re dr i k s=some s:=by
 have hi:∀ j,(bAt l s.1 j).mx=0∧(bAt l s.1 j).my=0:=fun j=>by
  have:=h j
  unfold Ey at this
  rw [Bool.and_eq_true,beq_iff_eq,beq_iff_eq] at this
  exact this
 have e:(Bj (bAt l s.1 i) (bAt l s.1 k) re dr).2.2.1=(Ge (bAt l s.1 i) (bAt l s.1 k) re dr).2.1∧(Ge (bAt l s.1 i) (bAt l s.1 k) re dr).2.1≠0∧(Ge (bAt l s.1 i) (bAt l s.1 k) re dr).2.1≠4:=by
  have a:=Agy (re:=re) (dr:=dr) (hi i).1 (hi i).2 (hi k).1 (hi k).2
  have n0:(Ge (bAt l s.1 i) (bAt l s.1 k) re dr).2.1≠0:=by rcases a with a | a | a <;> rw [a] <;> decide
  have n4:(Ge (bAt l s.1 i) (bAt l s.1 k) re dr).2.1≠4:=by rcases a with a | a | a <;> rw [a] <;> decide
  refine ⟨?_,n0,n4⟩
  unfold Bj Gf
  rw [show ((Ge (bAt l s.1 i) (bAt l s.1 k) re dr).2.1 != 0)=true from bne_iff_ne.2 n0]
  rfl
 unfold Ed
 rw [e.1,show ((Ge (bAt l s.1 i) (bAt l s.1 k) re dr).2.1==0)=false from beq_eq_false_iff_ne.2 e.2.1,show ((Ge (bAt l s.1 i) (bAt l s.1 k) re dr).2.1==4)=false from beq_eq_false_iff_ne.2 e.2.2]
 rfl
theorem A6j {l:List (TCT A2)} {re dr:Int} {i:Nat}:∀ (f k:Nat) (s:SS),AS s.1→V.inR l re dr i f k s=some s
 | 0,k,s,_=>by rw [V.inR]
 | f+1,k,s,h=>by rw [V.inR,Aap h,Option.bind_some];exact A6j f (k+1) s h
theorem Se {l:List (TCT A2)} {re dr:Int}:∀ (f i:Nat) (s:SS),AS s.1→Hd l re dr f i s=some s
 | 0,i,s,_=>by rw [Iw]
 | f+1,i,s,h=>by rw [He,A6j _ _ s h,Option.bind_some];exact Se f (i+1) s h
theorem Tt {l:List (TCT A2)} {s:Ar} {re dr:Int} (h:(Bi l s re dr).2.2.1=0) (ha:AS s):(Bi l s re dr).2.1=[]:=by
 unfold Bi at h ⊢
 cases h1:Kn l s != 0 with
 | true=>rw [h1,cond_true] at h;exact absurd h (bne_iff_ne.1 h1)
 | false =>
  rw [h1,cond_false] at h
  simp only [cond_false]
  cases h2:!Gl re dr with
  | true=>rw [h2] at h;cases h
  | false =>
   simp only [cond_false]
   rw [Se _ _ (s,[]) ha]
   rfl
structure NH (s s':S2):Prop where
 m:∀ j:Nat,A9 s'.1 j=A9 s.1 j
 o:s'.2.1=s.2.1
 k:s'.2.2=s.2.2
theorem NH.refl {s:S2}:NH s s:=⟨fun _=>rfl,rfl,rfl⟩
theorem NH.trans {a b c:S2} (h:NH a b) (k:NH b c):NH a c:=⟨fun j=>(k.m j).trans (h.m j),k.o.trans h.o,k.k.trans h.k⟩
theorem NH.as {a b:S2} (h:NH a b) (k:AS a.1):AS b.1:=fun j=>by rw [h.m j];exact k j
theorem NH.ol {a b:S2} {l:TCT A8} {n:Nat} (h:NH a b) (k:OL l n a.1 a.2.1):OL l n b.1 b.2.1:=fun j hj e=>by
 rw [h.m j];rw [h.o] at e;exact k j hj e
theorem Aoi {bl:List (TCT A2)} {c:TCT Cc} {t st w fl:Int} {n:Nat} {s:S2} {r:Ar×Kns} (hn8:n≤8) (h:seF bl c t st w fl n s=.inl r) (ha:AS s.1):NH s (r.1,s.2.1,r.2):=by
 have hr:∀ i,REL i s (r.1,s.2.1,r.2):=fun i=>A36 hn8 h
 have hk:r.2=s.2.2:=by
  unfold seF at h
  cases he:(seS bl c w fl n s).2.2.1 != 0 with
  | true=>rw [he] at h;cases h
  | false =>
   rw [he] at h
   cases h
   have hG:InvH s.1 s.2.1 n n (seG bl w fl n s):=Ts
   have hA:AS (seG bl w fl n s).2.2:=fun k=>by
    by_cases hk:k<(seG bl w fl n s).1.length
    ·rw [(hG.h k hk).1];exact ha _
    ·have hm:=hG.g.m
     unfold A9
     rw [Cf,List.getD_eq_getElem?_getD,List.getElem?_eq_none (by omega)];rfl
   have e:(seS bl c w fl n s).2.1=[]:=Tt (bne_eq_false_iff_eq.1 he) hA
   show kpV _ (seS bl c w fl n s).2.1 t st s.2.2=s.2.2
   rw [e];rfl
 refine ⟨fun j=>?_,rfl,hk⟩
 unfold seF at h
 cases he:(seS bl c w fl n s).2.2.1 != 0 with
 | true=>rw [he] at h;cases h
 | false =>
  rw [he] at h
  cases h
  have e0:=bne_eq_false_iff_eq.1 he
  have hG:InvH s.1 s.2.1 n n (seG bl w fl n s):=Ts
  have hA:AS (seG bl w fl n s).2.2:=fun k=>by
   by_cases hk:k<(seG bl w fl n s).1.length
   ·rw [(hG.h k hk).1];exact ha _
   ·have hm:=hG.g.m
    unfold A9
    rw [Cf,List.getD_eq_getElem?_getD,List.getElem?_eq_none (by omega)];rfl
  have e:(seS bl c w fl n s).2.1=[]:=Tt e0 hA
  refine A35 (ms:=s.1) (seG bl w fl n s).1.length 0 s.1 (by omega) (fun k' hk' e2=>?_) rfl
  have g1:=(hG.h k' hk').1
  rw [e2] at g1
  rw [← g1]
  exact A1b e0 k' fun p hp=>by
   rw [show (Bi (seG bl w fl n s).2.1 (seG bl w fl n s).2.2 c.1 c.2.1).2.1=[] from e] at hp
   exact nomatch hp
theorem Aoj {bl:List (TCT A2)} {l:TCT A8} {t st:Int} {n:Nat} {s s':S2} (h:mvF bl l t st n s=.inl s') (ha:AS s.1) (ho:OL l n s.1 s.2.1):NH s s':=by
 unfold mvF at h
 have e1:An (stE bl s.2.1) 0 n s.1=.inl s.1:=by
  have:∀ (k i:Nat),An (stE bl s.2.1) i k s.1=.inl s.1:=fun k=>by
   induction k with
   | zero=>intro i;rfl
   | succ k ih =>
    intro i
    unfold An
    rw [show stE bl s.2.1 i s.1=.inl s.1 by unfold stE;rw [ha.roll];rfl]
    exact ih (i+1)
  exact this n 0
 rw [e1] at h
 have h2:An (lvE l t st) 0 n (s.1,s.2.1,s.2.2)=.inl s':=h
 refine Az (n:=n) (Inv:=fun _ (x:S2)=>NH s x) (fun j x x' hj hx h3=>?_) n 0 (s.1,s.2.1,s.2.2) s' (by omega) .refl h2
 have hol:=hx.ol ho
 unfold lvE at h3
 cases h4:Al x.2.1 j (Ak .b) with
 | true=>rw [h4] at h3;cases h3;exact hx
 | false =>
  rw [h4,show onB l (A9 x.1 j).1=true from hol j hj h4] at h3
  cases h3
  exact hx
theorem B2u {bl:TCT A2} {c:TCT Cc} {ps:Dss} {os:List Bool} {w fl t st:Int} {j:Nat} {s s':MK} (ha:AS s.1) (h:Ux (An (bpE bl c ps os w fl t st j) 0 ps.length s)=.inl s'):s'=s:=by
 cases hp:ps.length with
 | zero=>rw [hp] at h;cases h;rfl
 | succ m =>
  rw [hp] at h
  unfold An at h
  have e:bpE bl c ps os w fl t st j 0 s=.inr (.inl s):=by unfold bpE;rw [ha.roll];rfl
  rw [e] at h
  cases h;rfl
theorem B2v {bl:List (TCT A2)} {c:TCT Cc} {ps:Dss} {t st w fl:Int} {n:Nat} {s:S2} {s':MK} (h:buF bl c ps t st w fl n s=.inl s') (ha:AS s.1):s'=(s.1,s.2.2):=by
 unfold buF at h
 exact Az (n:=n) (Inv:=fun _ (x:MK)=>x=(s.1,s.2.2)) (fun j x x' _ hx h2=>by
  subst hx
  exact B2u ha h2) n 0 (s.1,s.2.2) s' (by omega) rfl h
theorem Aok {k:CT} {j:Nat} {s s':S2} (hn8:k.bl.length≤8) (h:tkE k j s=.inl s') (ha:AS s.1) (ho:OL k.l k.bl.length s.1 s.2.1):NH s s':=by
 unfold tkE at h
 cases h1:mvF k.bl k.l k.t ((j+1:Nat):Int) k.bl.length s with
 | inr e=>rw [h1] at h;cases h
 | inl s1 =>
  rw [h1] at h
  simp only at h
  have a:NH s s1:=Aoj h1 ha ho
  cases h2:seF k.bl k.c k.t ((j+1:Nat):Int) k.w k.fl k.bl.length s1 with
  | inr e=>rw [h2] at h;cases h
  | inl s2 =>
   rw [h2] at h
   simp only at h
   have b:NH s1 (s2.1,s1.2.1,s2.2):=Aoi hn8 h2 (a.as ha)
   cases h3:buF k.bl k.c k.ps k.t ((j+1:Nat):Int) k.w k.fl k.bl.length (s2.1,s1.2.1,s2.2) with
   | inr e=>rw [h3] at h;cases h
   | inl s3 =>
    rw [h3] at h
    cases h
    have d:=B2v h3 (b.as (a.as ha))
    subst d
    exact a.trans b
theorem B2w {k:CT} {s s':S2} (hn8:k.bl.length≤8) (h:tkF k s=.inl s') (ha:AS s.1) (ho:OL k.l k.bl.length s.1 s.2.1):NH s s':=by
 unfold tkF at h
 cases h0:k.t==4000 with
 | true=>rw [h0] at h;cases h
 | false =>
  rw [h0] at h
  simp only [cond_false] at h
  have e1:An (slE k.l s.2.1 k.w k.fl) 0 k.bl.length s.1=.inl s.1:=by
   have:∀ (m i:Nat),An (slE k.l s.2.1 k.w k.fl) i m s.1=.inl s.1:=fun m=>by
    induction m with
    | zero=>intro i;rfl
    | succ m ih =>
     intro i
     unfold An
     rw [show slE k.l s.2.1 k.w k.fl i s.1=.inl s.1 by unfold slE;rw [ha.roll];rfl]
     exact ih (i+1)
   exact this _ 0
  rw [e1] at h
  have h2:An (tkE k) 0 16 (s.1,s.2.1,s.2.2)=.inl s':=h
  exact Az (n:=16) (Inv:=fun _ (x:S2)=>NH s x) (fun j x x' _ hx h3=>hx.trans (Aok hn8 h3 (hx.as ha) (hx.ol ho))) 16 0 (s.1,s.2.1,s.2.2) s' (by omega) .refl h2
end St
end V
end Go.Proofs.YtlangijnealfjaaGreat
