import Derived.Test.YtlangijnealfjaaGreatDo
import Derived.Test.YtlangijnealfjaaGreatDw
namespace Go.Proofs.YtlangijnealfjaaGreat
open Go.RowKit
namespace V
namespace St
theorem P6 {α:Type} {d:α} {l:List α} {i j:Nat} {x:α} (hi:i<l.length):As (Bf l i x) j d=if j=i then x else As l j d:=by
 rw [Bp,F8,F8,List.getD_eq_getElem?_getD,List.getD_eq_getElem?_getD,List.getElem?_set]
 by_cases h:i=j
 ·subst h
  rw [if_pos rfl,if_pos hi,if_pos rfl];rfl
 ·rw [if_neg h,if_neg (fun e=>h e.symm)]
theorem Io {l:Au} {i j:Nat} {x:TCT B0} (hi:i<l.length) (h:j=i):A9 (Bf l i x) j=x:=by unfold A9;rw [P6 hi,if_pos h]
theorem Fw {l:Au} {i j:Nat} {x:TCT B0} (hi:i<l.length) (h:¬ j=i):A9 (Bf l i x) j=A9 l j:=by unfold A9;rw [P6 hi,if_neg h]
def Di (os:List Bool) (i:Nat):Bool:=As os i (Aq .b)
theorem Ah4 {l:List Bool} {i j:Nat} {x:Bool} (hi:i<l.length) (h:j=i):Di (Bf l i x) j=x:=by unfold Di;rw [P6 hi,if_pos h]
theorem A57 {l:List Bool} {i j:Nat} {x:Bool} (hi:i<l.length) (h:¬ j=i):Di (Bf l i x) j=Di l j:=by unfold Di;rw [P6 hi,if_neg h]
def arS (m m':TCT B0):Prop:=m'.1=m.1∧m'.2.2.1=m.2.2.1
theorem P7 {b:TCT A3} {m m':TCT B0} (h:Mj b m=true) (ha:arS m m') (hs:smB m'=true):Mj b m'=true:=by
 unfold Mj Qo at h ⊢
 simp only [Bool.and_eq_true] at h ⊢
 rw [ha.1,ha.2]
 exact ⟨h.1,h.2.1,hs,h.2.2.2⟩
structure RQ (bl:List (TCT A3)) (n:Nat) (ms:Au) (os:List Bool):Prop where
 m:ms.length=n
 o:os.length=n
 ok:∀ j,j<n→Mj (Ej bl j) (A9 ms j)=true
 z:∀ j,j<n→Di os j=true→Fz (A9 ms j)=true
def OL (l:TCT Am) (n:Nat) (ms:Au) (os:List Bool):Prop:=∀ j,j<n→Di os j=false→onB l (A9 ms j).1=true
theorem Rz {ms:Au} {os:List Bool} {i:Nat} (h:(!Cf ms os i)=false):Di os i=false:=by
 unfold Cf at h
 unfold Di
 cases ho:As os i (Aq .b) with
 | false=>rfl
 | true=>rw [ho] at h;cases h
theorem RQ.set {bl:List (TCT A3)} {n i:Nat} {ms:Au} {os:List Bool} {x:TCT B0} (q:RQ bl n ms os) (hi:i<n) (hx:Mj (Ej bl i) x=true) (ho:Di os i=false):RQ bl n (Bf ms i x) os:=by
 have hm:=q.m
 refine ⟨(C0 _ _ _).trans hm,q.o,fun j hj=>?_,fun j hj h=>?_⟩
 ·by_cases e:j=i
  ·rw [Io (by omega) e,e];exact hx
  ·rw [Fw (by omega) e];exact q.ok j hj
 ·by_cases e:j=i
  ·rw [e,ho] at h;cases h
  ·rw [Fw (by omega) e];exact q.z j hj h
theorem OL.set {l:TCT Am} {n i:Nat} {ms:Au} {os:List Bool} {x:TCT B0} (q:OL l n ms os) (hm:ms.length=n) (hi:i<n) (hx:x.1=(A9 ms i).1):OL l n (Bf ms i x) os:=fun j hj h=>by
 by_cases e:j=i
 ·rw [Io (by omega) e,hx,← e];exact q j hj h
 ·rw [Fw (by omega) e];exact q j hj h
theorem B08 {p n A:Int} (hn:0<n) (h1 : -(A*n)≤p) (h2:p≤A*n) : -A≤Int.tdiv p n∧Int.tdiv p n≤A:=by
 have key:∀ q:Int,0≤q→q≤A*n→0≤q / n∧q / n≤A:=fun q h0 h=>by
  refine ⟨Int.ediv_nonneg h0 (by omega),?_⟩
  have:q / n<A+1:=Int.ediv_lt_of_lt_mul hn (by rw [Int.add_mul,Int.one_mul];omega)
  omega
 by_cases hp:0≤p
 ·rw [Int.tdiv_eq_ediv_of_nonneg hp]
  have:=key p hp h2
  omega
 ·have e:p = -(-p):=by omega
  rw [e,Int.neg_tdiv,Int.tdiv_eq_ediv_of_nonneg (show 0 ≤ -p by omega)]
  have:=key (-p) (by omega) (by omega)
  omega
theorem A8m {x a n A:Int} (hx : -A≤x∧x≤A) (hA:0≤A) (ha:0≤a∧a≤n) (hn:0<n) : -A≤Int.tdiv (x*a) n∧Int.tdiv (x*a) n≤A:=by
 have h1:x*a≤A*a:=Int.mul_le_mul_of_nonneg_right hx.2 ha.1
 have h2:(-A)*a≤x*a:=Int.mul_le_mul_of_nonneg_right hx.1 ha.1
 have h3:A*a≤A*n:=Int.mul_le_mul_of_nonneg_left ha.2 hA
 rw [Int.neg_mul] at h2
 exact B08 hn (by omega) (by omega)
theorem Yn {x y:Int} (hx : -16777216≤x∧x≤16777216) (hy : -16777216≤y∧y≤16777216):B9 x y=true:=by
 unfold B9 Bd
 rw [decide_eq_false (show ¬ x < -16777216 by omega),decide_eq_false (show ¬ 16777216<x by omega),decide_eq_false (show ¬ y < -16777216 by omega),decide_eq_false (show ¬ 16777216<y by omega)]
 rfl
theorem Ft {x y:Int} (h:B9 x y=true):(-16777216≤x∧x≤16777216)∧(-16777216≤y∧y≤16777216):=by
 unfold B9 at h
 simp only [Bool.and_eq_true,Bool.not_eq_true'] at h
 exact ⟨F4 h.1,F4 h.2⟩
theorem A8n {x y l:Int} (h:(Ni x y l).2.1=0):B9 (Ni x y l).1.1 (Ni x y l).1.2.1=true:=by
 unfold Ni at h ⊢
 cases h1:B9 x y with
 | false=>rw [h1] at h;cases h
 | true =>
  rw [h1] at h
  simp only [Bool.not_true,cond_false] at h ⊢
  cases h2:Bd l 0 33554432 with
  | true=>rw [h2] at h;cases h
  | false =>
   rw [h2] at h
   simp only [cond_false] at h ⊢
   cases h3:decide (slN x y≤8*l) with
   | true=>rfl
   | false =>
    have b:=Ft h1
    have c:=F4 h2
    have d:=of_decide_eq_false h3
    simp only [cond_false]
    exact Yn (A8m b.1 (by omega) ⟨by omega,by omega⟩ (by omega)) (A8m b.2 (by omega) ⟨by omega,by omega⟩ (by omega))
theorem Ary {l:TCT Am} {bl:List (TCT A3)} {os:List Bool} {w fl:Int} {i n:Nat} {ms ms':Au} (hi:i<n) (h:slE l os w fl i ms=.inl ms') (q:RQ bl n ms os) (p:OL l n ms os):RQ bl n ms' os∧OL l n ms' os:=by
 unfold slE at h
 cases h1:!Cf ms os i||Fi w fl i with
 | true=>rw [h1] at h;cases h;exact ⟨q,p⟩
 | false =>
  rw [h1] at h
  rw [Bool.or_eq_false_iff] at h1
  cases h2:Gk l (A9 ms i).1 != 0 with
  | true=>rw [h2] at h;cases h
  | false =>
   rw [h2] at h
   cases h3:(Nq l (A9 ms i)).2.1 != 0 with
   | true=>rw [h3] at h;cases h
   | false =>
    rw [h3] at h
    cases h
    have hs:smB (Aco l (A9 ms i))=true:=A8n (bne_eq_false_iff_eq.1 h3)
    exact ⟨q.set hi (P7 (q.ok i hi) ⟨rfl,rfl⟩ hs) (Rz h1.1),p.set q.m hi rfl⟩
theorem B57 (n m:Int) (hm:1≤m) : -(32*m)≤DR n (64*m)∧DR n (64*m)≤32*m-1:=by
 unfold DR DW
 have a:=Int.ediv_mul_le (2*n+64*m) (show 2*(64*m)≠0 by omega)
 have b:=Int.lt_ediv_add_one_mul_self (2*n+64*m) (show 0<2*(64*m) by omega)
 generalize (2*n+64*m) / (2*(64*m))=w at a b
 rw [Int.add_mul,Int.one_mul] at b
 have e:w*(2*(64*m))=2*(w*(64*m)):=by grind
 rw [e] at a b
 omega
theorem Add {x lo hi:Int} (h:lo≤x∧x≤hi):Bd x lo hi=false:=by
 unfold Bd
 rw [decide_eq_false (show ¬ x<lo by omega),decide_eq_false (show ¬ hi<x by omega)];rfl
theorem Arz {b:TCT A3} {m:TCT B0} (h:(M3 (bm b m)).2.1=0):Mj b (M3 (bm b m)).1=true:=by
 unfold M3 at h ⊢
 cases h1:(bm b m).ok with
 | false=>rw [h1] at h;cases h
 | true =>
  rw [h1] at h
  simp only [Bool.not_true,cond_false] at h ⊢
  cases h2:fpt (sX (bm b m)) (sY (bm b m)) with
  | false=>rw [h2] at h;cases h
  | true =>
   simp only [Bool.not_true,cond_false]
   have f:=Bm.fit h1
   unfold Bm.ok Qo at h1
   simp only [Bool.and_eq_true] at h1
   unfold Mj Qo
   simp only [Bool.and_eq_true,Bool.not_eq_true']
   have hm:1≤b.1:=Int.le_trans (by decide) f.m1
   exact ⟨h1.1,h2,h1.2.2.1,Add (B57 _ b.1 hm),Add (B57 _ b.1 hm)⟩
theorem As0 {bl:List (TCT A3)} {os:List Bool} {i n:Nat} {ms ms':Au} (hi:i<n) (h:stE bl os i ms=.inl ms') (q:RQ bl n ms os):RQ bl n ms' os:=by
 unfold stE at h
 cases h1:!Cf ms os i with
 | true=>rw [h1] at h;cases h;exact q
 | false =>
  rw [h1] at h
  cases h3:(Qg (Ej bl i) (A9 ms i)).2.1 != 0 with
  | true=>rw [h3] at h;cases h
  | false =>
   rw [h3] at h
   cases h
   exact q.set hi (Arz (bne_eq_false_iff_eq.1 h3)) (Rz h1)
theorem B90 {l:TCT Am} {bl:List (TCT A3)} {t st:Int} {i n:Nat} {s s':S2} (hi:i<n) (h:lvE l t st i s=.inl s') (q:RQ bl n s.1 s.2.1) (p:OL l i s.1 s.2.1):RQ bl n s'.1 s'.2.1∧OL l (i+1) s'.1 s'.2.1:=by
 have hm:=q.m
 have ho:=q.o
 unfold lvE at h
 cases h1:As s.2.1 i (Aq .b) with
 | true =>
  rw [h1] at h
  cases h
  refine ⟨q,fun j hj e=>?_⟩
  by_cases k:j=i
  ·rw [k] at e;unfold Di at e;rw [h1] at e;cases e
  ·exact p j (by omega) e
 | false =>
  rw [h1] at h
  cases h2:onB l (A9 s.1 i).1 with
  | true =>
   rw [h2] at h
   cases h
   refine ⟨q,fun j hj e=>?_⟩
   by_cases k:j=i
   ·rw [k];exact h2
   ·exact p j (by omega) e
  | false =>
   rw [h2] at h
   cases h
   refine ⟨⟨(C0 _ _ _).trans hm,(C0 _ _ _).trans ho,fun j hj=>?_,fun j hj e=>?_⟩,fun j hj e=>?_⟩
   ·by_cases k:j=i
    ·rw [Io (by omega) k,k]
     exact P7 (q.ok i hi) ⟨rfl,rfl⟩ rfl
    ·rw [Fw (by omega) k];exact q.ok j hj
   ·by_cases k:j=i
    ·rw [Io (by omega) k];rfl
    ·rw [A57 (by omega) k] at e
     rw [Fw (by omega) k];exact q.z j hj e
   ·by_cases k:j=i
    ·rw [Ah4 (by omega) k] at e;cases e
    ·rw [A57 (by omega) k] at e
     rw [Fw (by omega) k];exact p j (by omega) e
theorem As1 {bl:List (TCT A3)} {l:TCT Am} {t st:Int} {n:Nat} {s s':S2} (h:mvF bl l t st n s=.inl s') (q:RQ bl n s.1 s.2.1):RQ bl n s'.1 s'.2.1∧OL l n s'.1 s'.2.1:=by
 unfold mvF at h
 cases h1:Ax (stE bl s.2.1) 0 n s.1 with
 | inr e=>rw [h1] at h;cases h
 | inl ms =>
  rw [h1] at h
  have a:RQ bl n ms s.2.1:=B6 (n:=n) (Inv:=fun _ (x:Au)=>RQ bl n x s.2.1) (fun i x x' hi hq h=>As0 hi h hq) n 0 _ _ (by omega) q h1
  have h2:Ax (lvE l t st) 0 n (ms,s.2.1,s.2.2)=.inl s':=h
  exact B6 (n:=n) (Inv:=fun i (x:S2)=>RQ bl n x.1 x.2.1∧OL l i x.1 x.2.1) (fun i x x' hi hq h=>B90 hi h hq.1 hq.2) n 0 (ms,s.2.1,s.2.2) s' (by omega) ⟨a,fun j hj=>absurd hj (Nat.not_lt_zero j)⟩ h2
end St
end V
end Go.Proofs.YtlangijnealfjaaGreat
namespace Go.Proofs.YtlangijnealfjaaGreat
open Go.RowKit
namespace V
namespace St
def SA (G M:Au):Prop:=∀ j:Nat,arS (A9 G j) (A9 M j)
theorem SA.set {G M:Au} {i:Nat} {x:TCT B0} (h:SA G M) (hx:arS (A9 M i) x):SA G (Bf M i x):=fun j=>by
 by_cases hi:i<M.length
 ·by_cases e:j=i
  ·rw [Io hi e,e]
   exact ⟨hx.1.trans (h i).1,hx.2.trans (h i).2⟩
  ·rw [Fw hi e];exact h j
 ·have:Bf M i x=M:=by rw [Bp];exact List.set_eq_of_length_le (Nat.le_of_not_lt hi)
  rw [this];exact h j
theorem B91 {a b:Bm} {k:Q3} (h:(Hm a b k).2.2.1=0):(Hm a b k).1.1=(a.px,a.py,())∧(Hm a b k).1.2.2.1=(a.rx,a.ry,())∧(Hm a b k).2.1.1=(b.px,b.py,())∧(Hm a b k).2.1.2.2.1=(b.rx,b.ry,()):=by
 unfold Hm at h ⊢
 cases h1:k.2.1 != 0 with
 | true=>rw [h1] at h;exact absurd h (bne_iff_ne.1 h1)
 | false =>
  rw [h1] at h
  simp only [cond_false] at h ⊢
  cases h2:B9 (W64 (a.mx-k.1.1)) (W64 (a.my-k.1.2.1)) with
  | false=>rw [h2] at h;cases h
  | true =>
   rw [h2] at h
   simp only [Bool.not_true,cond_false] at h ⊢
   cases h3:B9 (W64 (b.mx+k.1.1)) (W64 (b.my+k.1.2.1)) with
   | false=>rw [h3] at h;cases h
   | true=>exact ⟨rfl,rfl,rfl,rfl⟩
theorem As2 {l:List (TCT A3)} {re dr:Int} {i k:Nat} {G:Au} {s s':SS} (hik:¬ k=i) (h:Fe l re dr i k s=some s') (hs:SA G s.1):SA G s'.1:=by
 unfold Fe at h
 cases h1:(C4 (bAt l s.1 i) (bAt l s.1 k) re dr).2.2.1==0 with
 | true =>
  rw [h1] at h
  simp only [cond_true,Option.some.injEq] at h
  subst h
  obtain ⟨b1,b2,b3,b4⟩:=B91 (a:=bAt l s.1 i) (b:=bAt l s.1 k) (k:=Vp (bAt l s.1 i) (bAt l s.1 k) re dr) (beq_iff_eq.1 h1)
  have ha:arS (A9 s.1 i) (C4 (bAt l s.1 i) (bAt l s.1 k) re dr).1:=⟨b1,b2⟩
  have hb:arS (A9 s.1 k) (C4 (bAt l s.1 i) (bAt l s.1 k) re dr).2.1:=⟨b3,b4⟩
  refine SA.set (SA.set hs ha) ?_
  by_cases hi:i<s.1.length
  ·rw [Fw hi hik];exact hb
  ·have:Bf s.1 i (C4 (bAt l s.1 i) (bAt l s.1 k) re dr).1=s.1:=by rw [Bp];exact List.set_eq_of_length_le (Nat.le_of_not_lt hi)
   rw [this];exact hb
 | false =>
  rw [h1,cond_false] at h
  cases h2:(C4 (bAt l s.1 i) (bAt l s.1 k) re dr).2.2.1==4 with
  | true=>rw [h2] at h;simp at h
  | false=>rw [h2] at h;simp only [cond_false,Option.some.injEq] at h;subst h;exact hs
theorem As3 {l:List (TCT A3)} {re dr:Int} {i:Nat} {G:Au}:∀ (f k:Nat) (s s':SS),i<k→V.inR l re dr i f k s=some s'→SA G s.1→SA G s'.1
 | 0,k,s,s',_,h,hs=>by rw [V.inR,Option.some.injEq] at h;subst h;exact hs
 | f+1,k,s,s',hk,h,hs=>by
  rw [V.inR] at h
  cases h1:Fe l re dr i k s with
  | none=>rw [h1] at h;simp at h
  | some s1 =>
   rw [h1,Option.bind_some] at h
   exact As3 f (k+1) s1 s' (by omega) h (As2 (by omega) h1 hs)
theorem Ah5 {l:List (TCT A3)} {re dr:Int} {G:Au}:∀ (f i:Nat) (s s':SS),I5 l re dr f i s=some s'→SA G s.1→SA G s'.1
 | 0,i,s,s',h,hs=>by rw [M1,Option.some.injEq] at h;subst h;exact hs
 | f+1,i,s,s',h,hs=>by
  rw [Jt] at h
  cases h1:V.inR l re dr i (l.length-(i+1)) (i+1) s with
  | none=>rw [h1] at h;simp at h
  | some s1 =>
   rw [h1,Option.bind_some] at h
   exact Ah5 f (i+1) s1 s' h (As3 _ _ _ _ (by omega) h1 hs)
theorem Ake {l:List (TCT A3)} {s:Au} {re dr:Int} (h:(Bw l s re dr).2.2.1=0):SA s (Bw l s re dr).1:=by
 unfold Bw at h ⊢
 cases h1:Mk l s != 0 with
 | true=>rw [h1,cond_true] at h;exact absurd h (bne_iff_ne.1 h1)
 | false =>
  rw [h1,cond_false] at h
  simp only [cond_false]
  cases h2:!Hw re dr with
  | true=>rw [h2] at h;cases h
  | false =>
   rw [h2,cond_false] at h
   simp only [cond_false]
   cases h3:I5 l re dr l.length 0 (s,[]) with
   | none=>rw [h3] at h;cases h
   | some s' =>
    have hz:SA s ((s,[]):SS).1:=fun j=>⟨rfl,rfl⟩
    exact Ah5 _ _ _ _ h3 hz
structure InvH (ms:Au) (os:List Bool) (n i:Nat) (s:GA):Prop where
 g:InvG n i s
 h:∀ k:Nat,k<s.1.length→A9 s.2.2 k=A9 ms (Int.toNat (As s.1 k (Aq cI)))∧Di os (Int.toNat (As s.1 k (Aq cI)))=false
theorem Gl {α:Type} {d:α} {l:List α} {x:α} {k:Nat} (h:k<l.length+1):As (l++[x]) k d=if k=l.length then x else As l k d:=by
 rw [F8,F8,List.getD_eq_getElem?_getD,List.getD_eq_getElem?_getD]
 by_cases e:k=l.length
 ·rw [if_pos e,e,List.getElem?_append_right (Nat.le_refl _),Nat.sub_self];rfl
 ·rw [if_neg e,List.getElem?_append_left (by omega)]
theorem Bep {bl:List (TCT A3)} {ms:Au} {os:List Bool} {w fl:Int} {n:Nat} (i:Nat) (s s':GA) (hi:i<n) (h:InvH ms os n i s) (h2:gaE bl ms os w fl i s=.inl s'):InvH ms os n (i+1) s':=by
 have hg:=Acz i s s' hi h.g h2
 refine ⟨hg,?_⟩
 unfold gaE at h2
 cases hc:!As os i (Aq .b)&&!Fi w fl i with
 | false=>rw [hc] at h2;cases h2;exact h.h
 | true =>
  rw [hc] at h2
  cases h2
  have hm:=h.g.m
  have ho:Di os i=false:=by
   unfold Di
   rw [Bool.and_eq_true] at hc
   simpa using hc.1
  intro k hk
  have hk2:k<(s.1++[(i:Int)]).length:=hk
  have hk':k<s.1.length+1:=by rw [List.length_append,List.length_singleton] at hk2;exact hk2
  show As (s.2.2++[A9 ms i]) k (Aq B0)=A9 ms (Int.toNat (As (s.1++[(i:Int)]) k (Aq cI)))∧Di os (Int.toNat (As (s.1++[(i:Int)]) k (Aq cI)))=false
  rw [Gl (by omega),Gl hk']
  by_cases e:k=s.1.length
  ·rw [if_pos e,if_pos (by omega)]
   exact ⟨rfl,ho⟩
  ·rw [if_neg e,if_neg (by omega)]
   exact h.h k (by omega)
theorem A2z {bl:List (TCT A3)} {ms:Au} {os:List Bool} {w fl:Int} {n:Nat}:InvH ms os n n (gaV bl w fl n ms os) :=
 B6 (n:=n) (Inv:=InvH ms os n) (fun i s s' hi h h2=>Bep (bl:=bl) (w:=w) (fl:=fl) i s s' hi h h2) n 0 ([],[],[]) _ (by omega) ⟨⟨rfl,rfl,Nat.le_refl _,fun w hw=>nomatch hw⟩,fun k hk=>absurd hk (Nat.not_lt_zero k)⟩ (J7 (Ax (gaE bl ms os w fl) 0 n ([],[],[])))
structure RK (bl:List (TCT A3)) (n:Nat) (ms0 ms:Au) (os:List Bool):Prop where
 q:RQ bl n ms os
 a:∀ j:Nat,(A9 ms j).1=(A9 ms0 j).1
theorem RK.ol {bl:List (TCT A3)} {l:TCT Am} {n:Nat} {ms0 ms:Au} {os:List Bool} (k:RK bl n ms0 ms os) (p:OL l n ms0 os):OL l n ms os:=fun j hj h=>by rw [k.a j];exact p j hj h
theorem RK.set {bl:List (TCT A3)} {n i:Nat} {ms0 ms:Au} {os:List Bool} {x:TCT B0} (k:RK bl n ms0 ms os) (hi:i<n) (hx:Mj (Ej bl i) x=true) (ho:Di os i=false) (hp:x.1=(A9 ms0 i).1):RK bl n ms0 (Bf ms i x) os:=by
 have hm:=k.q.m
 refine ⟨k.q.set hi hx ho,fun j=>?_⟩
 by_cases e:j=i
 ·rw [Io (by omega) e,hp,e]
 ·rw [Fw (by omega) e];exact k.a j
theorem As4 {bl:List (TCT A3)} {c:TCT Cj} {t st w fl:Int} {n:Nat} {s:S2} {r:Au×Kns} (h:seF bl c t st w fl n s=.inl r) (q:RQ bl n s.1 s.2.1):RK bl n s.1 r.1 s.2.1:=by
 unfold seF at h
 cases he:(seS bl c w fl n s).2.2.1 != 0 with
 | true=>rw [he] at h;cases h
 | false =>
  rw [he] at h
  cases h
  have e0:=bne_eq_false_iff_eq.1 he
  have hG:InvH s.1 s.2.1 n n (seG bl w fl n s):=A2z
  have hA:SA (seG bl w fl n s).2.2 (seS bl c w fl n s).1:=Ake e0
  have hS:SM (seS bl c w fl n s).1:=A2y e0
  exact B6 (n:=(seG bl w fl n s).1.length) (Inv:=fun _ (x:Au)=>RK bl n s.1 x s.2.1) (fun k x x' hk hx h2=>by
   cases h2
   obtain ⟨g1,g2⟩:=hG.h k hk
   have hr:=hG.g.r _ (Ex hk (Aq cI))
   have hj:Int.toNat (As (seG bl w fl n s).1 k (Aq cI))<n:=by omega
   have ha:=hA k
   rw [g1] at ha
   exact hx.set hj (P7 (q.ok _ hj) ha (hS k)) g2 ha.1) (seG bl w fl n s).1.length 0 s.1 _ (by omega) ⟨q,fun _=>rfl⟩ (J7 (Ax (scE (seG bl w fl n s).1 (seS bl c w fl n s).1) 0 (seG bl w fl n s).1.length s.1))
theorem As5 {b:TCT A3} {m:TCT B0} {d:TCT A4} {c:TCT Cj} (h:(bmV b m d c).2.1=0):Mj b (bmV b m d c).1=true∧(bmV b m d c).1.1=m.1:=by
 unfold bmV A9l at h ⊢
 cases h1:(bm b m).ok&&(Le d.1.1 d.1.2.1 d.2.1&&Hw c.1 c.2.1) with
 | false=>rw [h1] at h;cases h
 | true =>
  rw [h1] at h
  simp only [Bool.not_true,cond_false] at h ⊢
  cases h2:Hl (bm b m).px (bm b m).py d.1.1 d.1.2.1 ((bm b m).r+d.2.1) with
  | false=>rw [h2] at h;cases h
  | true =>
   rw [h2] at h
   simp only [Bool.not_true,cond_false] at h ⊢
   cases h3:decide (dN (bm b m) d.1.1 d.1.2.1≤0) with
   | true=>rw [h3] at h;cases h
   | false =>
    rw [h3] at h
    simp only [cond_false] at h ⊢
    cases h4:B9 (W64 ((bm b m).mx-(kK (d.1.1-(bm b m).px) (d.1.2.1-(bm b m).py) (bm b m).mx (bm b m).my c.1 c.2.1 1).1)) (W64 ((bm b m).my-(kK (d.1.1-(bm b m).px) (d.1.2.1-(bm b m).py) (bm b m).mx (bm b m).my c.1 c.2.1 1).2)) with
    | false=>rw [h4] at h;cases h
    | true =>
     simp only [Bool.not_true,cond_false]
     rw [Bool.and_eq_true] at h1
     have hm:Mj b m=true:=h1.1
     exact ⟨P7 hm ⟨rfl,rfl⟩ h4,rfl⟩
theorem B92 {bl:List (TCT A3)} {c:TCT Cj} {ps:Dss} {os:List Bool} {w fl t st:Int} {i n k:Nat} {ms0:Au} {s:MK} (hi:i<n) (q:RK bl n ms0 s.1 os):(∀ s',bpE (Ej bl i) c ps os w fl t st i k s=.inl s'→RK bl n ms0 s'.1 os)∧(∀ s',bpE (Ej bl i) c ps os w fl t st i k s=.inr (.inl s')→s'=s):=by
 unfold bpE
 cases h1:!Cf s.1 os i||Fi w fl i with
 | true=>exact ⟨(fun s' h=>by cases h),(fun s' h=>by cases h;rfl)⟩
 | false =>
  rw [Bool.or_eq_false_iff] at h1
  simp only [cond_false]
  cases h2:(bmV (Ej bl i) (A9 s.1 i) (Fc ps k) c).2.1==0 with
  | true =>
   refine ⟨(fun s' h=>?_),(fun s' h=>by cases h)⟩
   cases h
   have b:=As5 (beq_iff_eq.1 h2)
   exact q.set hi b.1 (Rz h1.1) (b.2.trans (q.a i))
  | false =>
   simp only [cond_false]
   cases h3:(bmV (Ej bl i) (A9 s.1 i) (Fc ps k) c).2.1==4 with
   | true=>exact ⟨(fun s' h=>by cases h),(fun s' h=>by cases h)⟩
   | false=>exact ⟨(fun s' h=>by cases h;exact q),(fun s' h=>by cases h)⟩
theorem As6 {bl:List (TCT A3)} {c:TCT Cj} {ps:Dss} {os:List Bool} {w fl t st:Int} {i n:Nat} {ms0:Au} (hi:i<n):∀ (j k:Nat) (s s':MK),RK bl n ms0 s.1 os→Yd (Ax (bpE (Ej bl i) c ps os w fl t st i) k j s)=.inl s'→RK bl n ms0 s'.1 os
 | 0,k,s,s',q,h=>by cases h;exact q
 | j+1,k,s,s',q,h=>by
  unfold Ax at h
  have a:=B92 (c:=c) (ps:=ps) (w:=w) (fl:=fl) (t:=t) (st:=st) (k:=k) hi q
  cases hf:bpE (Ej bl i) c ps os w fl t st i k s with
  | inl t1=>rw [hf] at h;exact As6 hi j (k+1) t1 s' (a.1 t1 hf) h
  | inr y =>
   rw [hf] at h
   cases y with
   | inl t1 =>
    have e:=a.2 t1 hf
    subst e
    cases h
    exact q
   | inr e=>cases h
theorem B93 {bl:List (TCT A3)} {c:TCT Cj} {ps:Dss} {t st w fl:Int} {n:Nat} {s:S2} {s':MK} (h:buF bl c ps t st w fl n s=.inl s') (q:RQ bl n s.1 s.2.1):RK bl n s.1 s'.1 s.2.1:=by
 unfold buF at h
 exact B6 (n:=n) (Inv:=fun _ (x:MK)=>RK bl n s.1 x.1 s.2.1) (fun i x x' hi hx h2=>As6 hi ps.length 0 x x' hx h2) n 0 (s.1,s.2.2) s' (by omega) ⟨q,fun _=>rfl⟩ h
theorem As7 {k:CT} {i:Nat} {s s':S2} (h:tkE k i s=.inl s') (q:RQ k.bl k.bl.length s.1 s.2.1):RQ k.bl k.bl.length s'.1 s'.2.1∧OL k.l k.bl.length s'.1 s'.2.1:=by
 unfold tkE at h
 cases h1:mvF k.bl k.l k.t ((i+1:Nat):Int) k.bl.length s with
 | inr e=>rw [h1] at h;cases h
 | inl s1 =>
  rw [h1] at h
  simp only at h
  have a:=As1 h1 q
  cases h2:seF k.bl k.c k.t ((i+1:Nat):Int) k.w k.fl k.bl.length s1 with
  | inr e=>rw [h2] at h;cases h
  | inl s2 =>
   rw [h2] at h
   simp only at h
   have b:=As4 h2 a.1
   cases h3:buF k.bl k.c k.ps k.t ((i+1:Nat):Int) k.w k.fl k.bl.length (s2.1,s1.2.1,s2.2) with
   | inr e=>rw [h3] at h;cases h
   | inl s3 =>
    rw [h3] at h
    cases h
    have d:=B93 h3 b.q
    exact ⟨d.q,d.ol (b.ol a.2)⟩
theorem B94 {k:CT} {s s':S2} (h:tkF k s=.inl s') (q:RQ k.bl k.bl.length s.1 s.2.1) (p:OL k.l k.bl.length s.1 s.2.1):RQ k.bl k.bl.length s'.1 s'.2.1∧OL k.l k.bl.length s'.1 s'.2.1:=by
 unfold tkF at h
 cases h0:k.t==4000 with
 | true=>rw [h0] at h;cases h
 | false =>
  rw [h0] at h
  simp only [cond_false] at h
  cases h1:Ax (slE k.l s.2.1 k.w k.fl) 0 k.bl.length s.1 with
  | inr e=>rw [h1] at h;cases h
  | inl ms =>
   rw [h1] at h
   have a:RQ k.bl k.bl.length ms s.2.1∧OL k.l k.bl.length ms s.2.1:=B6 (n:=k.bl.length) (Inv:=fun _ (x:Au)=>RQ k.bl k.bl.length x s.2.1∧OL k.l k.bl.length x s.2.1) (fun i x x' hi hq h=>Ary hi h hq.1 hq.2) k.bl.length 0 _ _ (by omega) ⟨q,p⟩ h1
   have h2:Ax (tkE k) 0 16 (ms,s.2.1,s.2.2)=.inl s':=h
   exact B6 (n:=16) (Inv:=fun _ (x:S2)=>RQ k.bl k.bl.length x.1 x.2.1∧OL k.l k.bl.length x.1 x.2.1) (fun i x x' _ hq h=>As7 h hq.1) 16 0 (ms,s.2.1,s.2.2) s' (by omega) a h2
theorem Ah6 {α:Type} {ok:Nat→α→Bool} {d:α}:∀ (l:List α) (i:Nat),(∀ j,j<l.length→ok (i+j) (As l j d)=true)→I2 ok i l=true
 | [],_,_=>rfl
 | x::l,i,h=>by
  unfold I2
  rw [Bool.and_eq_true]
  refine ⟨h 0 (by simp),Ah6 (d:=d) l (i+1) fun j hj=>?_⟩
  have:=h (j+1) (by simpa using hj)
  rw [show i+(j+1)=i+1+j by omega] at this
  exact this
theorem Ah7 {α:Type} {ok:Nat→α→Bool} {d:α}:∀ (l:List α) (i:Nat),I2 ok i l=true→∀ j,j<l.length→ok (i+j) (As l j d)=true
 | [],_,_,j,hj=>absurd hj (Nat.not_lt_zero j)
 | x::l,i,h,j,hj=>by
  simp only [I2,Bool.and_eq_true] at h
  cases j with
  | zero=>exact h.1
  | succ j =>
   have:=Ah7 (d:=d) l (i+1) h.2 j (by simpa using hj)
   rw [show i+(j+1)=i+1+j by omega]
   exact this
theorem Yo {g:TCT cGr} {s:TCT cSt} (h:StaOk g s):RQ (A2 g) (A2 g).length (msT s) (osT s)∧OL g.1 (A2 g).length (msT s) (osT s):=by
 have hm:=h.m
 have key:∀ j,j<(A2 g).length→okO g.1 (Ej (A2 g) j) (Di (osT s) j) (A9 (msT s) j)=true:=fun j hj=>by
  have:=Ah7 (d:=Aq B0) (msT s) 0 h.ok j (by omega)
  rw [Nat.zero_add] at this
  exact this
 refine ⟨⟨h.m,h.o,fun j hj=>?_,fun j hj e=>?_⟩,fun j hj e=>?_⟩
 ·have:=key j hj
  unfold okO at this
  rw [Bool.and_eq_true] at this
  exact this.1
 ·have:=key j hj
  unfold okO at this
  rw [e,Bool.and_eq_true,cond_true,Bool.and_true] at this
  exact this.2
 ·have:=key j hj
  unfold okO at this
  rw [e,Bool.and_eq_true,cond_false] at this
  exact this.2
theorem Yp {g:TCT cGr} {s:TCT cSt} (hg:groE g=0) (n1:1≤(A2 g).length) (n8:(A2 g).length≤8) (q:RQ (A2 g) (A2 g).length (msT s) (osT s)) (p:OL g.1 (A2 g).length (msT s) (osT s)) (hn:A4s (A2 g).length s=false):StaOk g s:=by
 have hm:=q.m
 refine ⟨hg,n1,n8,q.m,q.o,Ah6 (d:=Aq B0) (msT s) 0 fun j hj=>?_,hn⟩
 rw [Nat.zero_add]
 show okO g.1 (Ej (A2 g) j) (Di (osT s) j) (A9 (msT s) j)=true
 unfold okO
 rw [q.ok j (by omega),Bool.true_and]
 cases e:Di (osT s) j with
 | true=>rw [cond_true,Bool.and_true];exact q.z j (by omega) e
 | false=>rw [cond_false];exact p j (by omega) e
end St
end V
end Go.Proofs.YtlangijnealfjaaGreat
namespace Go.Proofs.YtlangijnealfjaaGreat
open Go.RowKit
namespace V
def Px {A B C D:Type} (f:A→C) (g:B→D):A⊕B→C⊕D
 | .inl a=>.inl (f a)
 | .inr b=>.inr (g b)
theorem Js {S B:Type} {f:Nat→S→S⊕B} {φ:S→S} {ψ:B→B} (h:∀ i s,f i (φ s)=Px φ ψ (f i s)):∀ (k i:Nat) (s:S),Ax f i k (φ s)=Px φ ψ (Ax f i k s)
 | 0,_,_=>rfl
 | k+1,i,s=>by
  unfold Ax
  rw [h]
  cases f i s with
  | inl s'=>exact Js h k (i+1) s'
  | inr b=>rfl
namespace St
def a2 (ks:Kns) (s:S2):S2:=(s.1,s.2.1,ks++s.2.2)
def aM (ks:Kns) (s:MK):MK:=(s.1,ks++s.2)
theorem B09 {l:TCT Am} {t st:Int} {ks:Kns} (i:Nat) (s:S2):lvE l t st i (a2 ks s)=Px (a2 ks) id (lvE l t st i s):=by
 unfold lvE a2
 simp only
 cases As s.2.1 i (Aq .b) with
 | true=>rfl
 | false =>
  cases onB l (A9 s.1 i).1 with
  | true=>rfl
  | false=>simp only [Bool.not_false,cond_true,List.append_assoc];rfl
theorem B0a {bl:List (TCT A3)} {l:TCT Am} {t st:Int} {n:Nat} {ks:Kns} (s:S2):mvF bl l t st n (a2 ks s)=Px (a2 ks) id (mvF bl l t st n s):=by
 unfold mvF
 show (match Ax (stE bl s.2.1) 0 n s.1 with
  | .inl ms=>Ax (lvE l t st) 0 n (a2 ks (ms,s.2.1,s.2.2))
  | .inr e=>.inr e)=_
 cases Ax (stE bl s.2.1) 0 n s.1 with
 | inl ms=>exact Js (fun i s=>B09 i s) n 0 (ms,s.2.1,s.2.2)
 | inr e=>rfl
theorem B0b {S:Type} {φ:S→S} {ψ:Empty→Empty} (y:S⊕Empty):unE (Px φ ψ y)=φ (unE y):=by
 cases y with
 | inl s=>rfl
 | inr e=>exact nomatch e
theorem B0c {W:List Int} {P:Prs} {t st:Int} {ks x:Kns}:kpV W P t st (ks++x)=ks++kpV W P t st x:=by
 unfold kpV
 rw [Js (φ:=fun y:Kns=>ks++y) (ψ:=id) (fun i s=>by unfold kpE Px;rw [List.append_assoc])]
 exact B0b _
theorem B0d {bl:List (TCT A3)} {c:TCT Cj} {t st w fl:Int} {n:Nat} {ks:Kns} (s:S2):seF bl c t st w fl n (a2 ks s)=Px (aM ks) id (seF bl c t st w fl n s):=by
 unfold seF
 show (bif (seS bl c w fl n s).2.2.1 != 0 then .inr (seS bl c w fl n s).2.2.1 else .inl (scV (seG bl w fl n s).1 (seS bl c w fl n s).1 s.1,kpV (seG bl w fl n s).1 (seS bl c w fl n s).2.1 t st (ks++s.2.2)):MK⊕Int)=_
 rw [B0c]
 cases (seS bl c w fl n s).2.2.1 != 0 <;> rfl
theorem B0e {b:TCT A3} {c:TCT Cj} {ps:Dss} {os:List Bool} {w fl t st:Int} {i:Nat} {ks:Kns} (k:Nat) (s:MK):bpE b c ps os w fl t st i k (aM ks s)=Px (aM ks) (Px (aM ks) id) (bpE b c ps os w fl t st i k s):=by
 unfold bpE aM
 simp only
 cases !Cf s.1 os i||Fi w fl i with
 | true=>rfl
 | false =>
  cases (bmV b (A9 s.1 i) (Fc ps k) c).2.1==0 with
  | true=>simp only [cond_false,cond_true,List.append_assoc];rfl
  | false=>cases (bmV b (A9 s.1 i) (Fc ps k) c).2.1==4 <;> rfl
theorem As8 {φ:MK→MK} (y:MK⊕(MK⊕Int)):Yd (Px φ (Px φ id) y)=Px φ id (Yd y):=by
 cases y with
 | inl s=>rfl
 | inr z=>cases z <;> rfl
theorem B0f {bl:List (TCT A3)} {c:TCT Cj} {ps:Dss} {t st w fl:Int} {n:Nat} {ks:Kns} (s:S2):buF bl c ps t st w fl n (a2 ks s)=Px (aM ks) id (buF bl c ps t st w fl n s):=by
 unfold buF
 exact Js (φ:=aM ks) (ψ:=id) (fun i s=>by unfold boE;rw [Js (fun k s=>B0e k s)];exact As8 _) n 0 (s.1,s.2.2)
theorem B0g {k:CT} {ks:Kns} (i:Nat) (s:S2):tkE k i (a2 ks s)=Px (a2 ks) id (tkE k i s):=by
 unfold tkE
 rw [B0a]
 cases mvF k.bl k.l k.t ((i+1:Nat):Int) k.bl.length s with
 | inr e=>rfl
 | inl s1 =>
  show ((match seF k.bl k.c k.t ((i+1:Nat):Int) k.w k.fl k.bl.length (a2 ks s1) with
   | .inr e=>.inr e
   | .inl s2=>match buF k.bl k.c k.ps k.t ((i+1:Nat):Int) k.w k.fl k.bl.length (s2.1,s1.2.1,s2.2) with
    | .inr e=>.inr e
    | .inl s3=>.inl (s3.1,s1.2.1,s3.2)):S2⊕Int)=_
  rw [B0d]
  simp only
  cases seF k.bl k.c k.t ((i+1:Nat):Int) k.w k.fl k.bl.length s1 with
  | inr e=>rfl
  | inl s2 =>
   show ((match buF k.bl k.c k.ps k.t ((i+1:Nat):Int) k.w k.fl k.bl.length (a2 ks (s2.1,s1.2.1,s2.2)) with
    | .inr e=>.inr e
    | .inl s3=>.inl (s3.1,s1.2.1,s3.2)):S2⊕Int)=_
   rw [B0f]
   simp only
   cases buF k.bl k.c k.ps k.t ((i+1:Nat):Int) k.w k.fl k.bl.length (s2.1,s1.2.1,s2.2) <;> rfl
theorem B0h {k:CT} {ks:Kns} (s:S2):tkF k (a2 ks s)=Px (a2 ks) id (tkF k s):=by
 unfold tkF
 show ((bif k.t==4000 then .inr 3 else match Ax (slE k.l s.2.1 k.w k.fl) 0 k.bl.length s.1 with
  | .inr e=>.inr e
  | .inl ms=>Ax (tkE k) 0 16 (a2 ks (ms,s.2.1,s.2.2))):S2⊕Int)=_
 cases k.t==4000 with
 | true=>rfl
 | false =>
  simp only [cond_false]
  cases Ax (slE k.l s.2.1 k.w k.fl) 0 k.bl.length s.1 with
  | inr e=>rfl
  | inl ms=>exact Js (fun i s=>B0g i s) 16 0 (ms,s.2.1,s.2.2)
theorem B95 {k:CT} {ms:Au} {os:List Bool} {ks:Kns}:tkF k (ms,os,ks)=Px (a2 ks) id (tkF k (ms,os,[])):=by
 have:=B0h (k:=k) (ks:=ks) (ms,os,[])
 unfold a2 at this
 simp only [List.append_nil] at this
 exact this
def nxS (s:TCT cSt) (r:S2):TCT cSt:=(r.1,r.2.1,s.2.2.1,max 0 (W64 (s.2.2.2.1-1)),W64 (s.2.2.2.2.1+1),())
theorem B96 {n a b c:Int} (h1:0≤a∧a<n) (h2:0≤b∧b≤8) (h3:0≤c∧c≤4000):(decide (a<0)||(decide (a≥n)||(decide (b<0)||(decide (b>8)||(decide (c<0)||decide (c>4000))))))=false:=by
 simp only [Bool.or_eq_false_iff,decide_eq_false_iff_not]
 omega
theorem Ade {n a b c:Int} (h:(decide (a<0)||(decide (a≥n)||(decide (b<0)||(decide (b>8)||(decide (c<0)||decide (c>4000))))))=false):(0≤a∧a<n)∧(0≤b∧b≤8)∧(0≤c∧c≤4000):=by
 simp only [Bool.or_eq_false_iff,decide_eq_false_iff_not] at h
 omega
theorem B97 {b c:Int} (h2:0≤b∧b≤8) (h3:0≤c∧c≤4000) (h4:¬ c=4000):(0≤max 0 (W64 (b-1))∧max 0 (W64 (b-1))≤8)∧(0≤W64 (c+1)∧W64 (c+1)≤4000):=by
 rw [Be (n:=b-1) (by omega) (by omega),Be (n:=c+1) (by omega) (by omega)]
 omega
theorem O1 {g:TCT cGr} {s:TCT cSt} {ks:Kns} {r:S2} (h:StaOk g s) (ht:tkF (ctS g s) (msT s,osT s,ks)=.inl r):StaOk g (nxS s r):=by
 have a:=Yo h
 have b:=B94 (k:=ctS g s) (s:=(msT s,osT s,ks)) ht a.1 a.2
 have hn:(0≤s.2.2.1∧s.2.2.1<((A2 g).length:Int))∧(0≤s.2.2.2.1∧s.2.2.2.1≤8)∧(0≤s.2.2.2.2.1∧s.2.2.2.2.1≤4000):=Ade h.num
 have h4:¬ s.2.2.2.2.1=4000:=by
  intro e
  unfold tkF at ht
  rw [show ((ctS g s).t==4000)=true from beq_iff_eq.2 e] at ht
  cases ht
 have c:=B97 hn.2.1 hn.2.2 h4
 exact Yp h.gr h.n1 h.n8 b.1 b.2 (B96 hn.1 c.1 c.2)
def rnS (g:TCT cGr):Nat→TCT cSt→Kns→(TCT cSt×Kns)⊕Int
 | 0,s,ks=>bif decide ((ks.length:Int)>4096) then .inr 6 else .inl (s,ks)
 | n+1,s,ks=>bif decide ((ks.length:Int)>4096) then .inr 6 else bif !D5 s then match tkF (ctS g s) (msT s,osT s,ks) with
  | .inl r=>rnS g n (nxS s r) r.2.2
  | .inr e=>.inr e
  else .inl (s,ks)
def gZ (g:TCT cGr) (s:TCT cSt) (stp:Int) (ks:Kns):GB:=((g.1.1,g.1.2.1,g.1.2.2.1,g.1.2.2.2.1,g.1.2.2.2.2.1,g.1.2.2.2.2.2.1.1.1,g.1.2.2.2.2.2.1.1.2.1,g.1.2.2.2.2.2.1.2.1,g.1.2.2.2.2.2.2.1,g.1.2.2.2.2.2.2.2.1,g.1.2.2.2.2.2.2.2.2.1,g.2.1,g.2.2.1.1,g.2.2.1.2.1,I3 g.1,s.1,s.2.1,s.2.2.1,s.2.2.2.1,s.2.2.2.2.1,stp,((),(),()),()),(ks,()),())
def Adf:(TCT cSt×Kns)⊕Int→TkR
 | .inl r=>((r.1.1,r.1.2.1,r.1.2.2.1,r.1.2.2.2.1,r.1.2.2.2.2.1,()),r.2,0,())
 | .inr e=>Jm e
theorem plRn_rnS {g:TCT cGr}:∀ (n:Nat) (s:TCT cSt) (stp:Int) (ks:Kns),Akd (plRn n (gZ g s stp ks))=Adf (rnS g n s ks)
 | 0,s,stp,ks=>by
  show Akd (bif decide ((ks.length:Int)>4096) then .inr 6 else .inl (gZ g s stp ks))=Adf (bif decide ((ks.length:Int)>4096) then .inr 6 else .inl (s,ks))
  cases decide ((ks.length:Int)>4096) <;> rfl
 | n+1,s,stp,ks=>by
  show Akd (bif decide ((ks.length:Int)>4096) then .inr 6 else bif !D5 (stG (gZ g s stp ks).1) then match tkF (ctS g s) (msT s,osT s,ks) with
   | .inl r=>plRn n (gZ g (nxS s r) 17 r.2.2)
   | .inr e=>.inr e
   else .inl (gZ g s stp ks))=Adf (bif decide ((ks.length:Int)>4096) then .inr 6 else bif !D5 s then match tkF (ctS g s) (msT s,osT s,ks) with
   | .inl r=>rnS g n (nxS s r) r.2.2
   | .inr e=>.inr e
   else .inl (s,ks))
  cases decide ((ks.length:Int)>4096) with
  | true=>rfl
  | false =>
   show Akd (bif !D5 s then match tkF (ctS g s) (msT s,osT s,ks) with
    | .inl r=>plRn n (gZ g (nxS s r) 17 r.2.2)
    | .inr e=>.inr e
    else .inl (gZ g s stp ks))=Adf (bif !D5 s then match tkF (ctS g s) (msT s,osT s,ks) with
    | .inl r=>rnS g n (nxS s r) r.2.2
    | .inr e=>.inr e
    else .inl (s,ks))
   cases D5 s with
   | true=>rfl
   | false =>
    simp only [Bool.not_false,cond_true]
    cases tkF (ctS g s) (msT s,osT s,ks) with
    | inr e=>rfl
    | inl r=>exact plRn_rnS n (nxS s r) 17 r.2.2
theorem As9 {g:TCT cGr} {s:TCT cSt} {n:Int}:PlayV g s n=bif K5 g s != 0 then Jm (K5 g s) else bif decide (n<0)||decide (n>4000) then Jm 3 else Adf (rnS g (Int.toNat n) s []):=by
 unfold PlayV
 rw [show Akd (plRn (Int.toNat n) (gT g s))=Adf (rnS g (Int.toNat n) s []) from plRn_rnS (Int.toNat n) s 0 []]
end St
end V
end Go.Proofs.YtlangijnealfjaaGreat
namespace Go.Proofs.YtlangijnealfjaaGreat
open Go.RowKit
namespace V
namespace St
theorem S0 {g:TCT cGr} (s:TCT cSt) (ks:Kns):rnS g 0 s ks=bif decide ((ks.length:Int)>4096) then .inr 6 else .inl (s,ks):=rfl
theorem S1 {g:TCT cGr} (n:Nat) (s:TCT cSt) (ks:Kns):rnS g (n+1) s ks=bif decide ((ks.length:Int)>4096) then .inr 6 else bif !D5 s then match tkF (ctS g s) (msT s,osT s,ks) with
  | .inl r=>rnS g n (nxS s r) r.2.2
  | .inr e=>.inr e
  else .inl (s,ks):=rfl
theorem Ah8 {g:TCT cGr}:∀ (n:Nat) (s:TCT cSt) (ks:Kns) (r:TCT cSt×Kns),StaOk g s→rnS g n s ks=.inl r→StaOk g r.1∧r.2.length≤4096
 | 0,s,ks,r,h,e=>by
  rw [S0] at e
  cases hm:decide ((ks.length:Int)>4096) with
  | true=>rw [hm] at e;cases e
  | false =>
   rw [hm] at e
   have:=of_decide_eq_false hm
   cases e
   exact ⟨h,by show ks.length≤4096;omega⟩
 | n+1,s,ks,r,h,e=>by
  rw [S1] at e
  cases hm:decide ((ks.length:Int)>4096) with
  | true=>rw [hm] at e;cases e
  | false =>
   rw [hm] at e
   have:=of_decide_eq_false hm
   cases hs:D5 s with
   | true =>
    rw [hs] at e
    cases e
    exact ⟨h,by show ks.length≤4096;omega⟩
   | false =>
    rw [hs] at e
    simp only [Bool.not_false,cond_true,cond_false] at e
    cases ht:tkF (ctS g s) (msT s,osT s,ks) with
    | inr x=>rw [ht] at e;cases e
    | inl x=>rw [ht] at e;exact Ah8 n (nxS s x) x.2.2 r (O1 h ht) e
theorem B98 {g:TCT cGr} {s:TCT cSt} (h:StaOk g s):K5 g s=0:=by
 unfold K5 vaE
 have e:A1r g s=true:=by
  unfold A1r
  rw [h.m,h.o,beq_self_eq_true];rfl
 rw [h.gr,e,h.ok,h.num];rfl
theorem Asa {g:TCT cGr} {s:TCT cSt} (h:StaOk g s):(K5 g s != 0)=false:=by rw [B98 h];rfl
theorem play_of {g:TCT cGr} {s:TCT cSt} {n:Nat} (h:StaOk g s) (hn:n≤4000):PlayV g s (n:Int)=Adf (rnS g n s []):=by
 rw [As9,Asa h,decide_eq_false (show ¬ (n:Int)<0 by omega),decide_eq_false (show ¬ (n:Int)>4000 by omega)]
 rfl
end St
end V
end Go.Proofs.YtlangijnealfjaaGreat
namespace Go.Proofs.YtlangijnealfjaaGreat
open Go.RowKit
namespace V
namespace St
def tcK (i:Nat) (k:TCT cKn):Bool:=k.2.2.2.1==(i:Int)||(k.2.2.1==0&&k.2.2.2.2.1==(i:Int))
def tcB (i:Nat) (ks:Kns):Bool:=ks.any (tcK i)
theorem P8 {i:Nat} {a b:Kns}:tcB i (a++b)=(tcB i a||tcB i b):=List.any_append
structure REL (i:Nat) (s s':S2):Prop where
 r0:tcB i s.2.2=true→tcB i s'.2.2=true
 r1:Di s.2.1 i=true→Di s'.2.1 i=true∧(A9 s'.1 i).1=(A9 s.1 i).1∧tcB i s'.2.2=tcB i s.2.2
 r2:Fz (A9 s.1 i)=true→tcB i s'.2.2=false→A9 s'.1 i=A9 s.1 i∧Di s'.2.1 i=Di s.2.1 i
theorem REL.refl {i:Nat} {s:S2}:REL i s s:=⟨id,fun h=>⟨h,rfl,rfl⟩,fun _ _=>⟨rfl,rfl⟩⟩
theorem REL.trans {i:Nat} {a b c:S2} (h:REL i a b) (k:REL i b c):REL i a c:=by
 refine ⟨fun e=>k.r0 (h.r0 e),fun e=>?_,fun e f=>?_⟩
 ·obtain ⟨x1,x2,x3⟩:=h.r1 e
  obtain ⟨y1,y2,y3⟩:=k.r1 x1
  exact ⟨y1,y2.trans x2,y3.trans x3⟩
 ·have hb:tcB i b.2.2=false:=by
   cases hc:tcB i b.2.2 with
   | false=>rfl
   | true=>rw [k.r0 hc] at f;cases f
  obtain ⟨x1,x2⟩:=h.r2 e hb
  obtain ⟨y1,y2⟩:=k.r2 (by rw [x1];exact e) f
  exact ⟨y1.trans x1,y2.trans x2⟩
theorem I4 {l:Au} {i j:Nat} {x:TCT B0} (h:¬ j=i):A9 (Bf l i x) j=A9 l j:=by
 unfold A9
 rcases K6 (d:=Aq B0) l i j x with e | e
 ·rw [Bp,F8,F8,List.getD_eq_getElem?_getD,List.getD_eq_getElem?_getD,List.getElem?_set,if_neg (fun e=>h e.symm)]
 ·exact e
theorem A30 {l:List Bool} {i j:Nat} {x:Bool} (h:¬ j=i):Di (Bf l i x) j=Di l j:=by
 unfold Di
 rw [Bp,F8,F8,List.getD_eq_getElem?_getD,List.getD_eq_getElem?_getD,List.getElem?_set,if_neg (fun e=>h e.symm)]
theorem Ah9 {ms:Au} {os:List Bool} {i:Nat} (h:Cf ms os i=true):Di os i=false∧Fz (A9 ms i)=false:=by
 unfold Cf at h
 rw [Bool.and_eq_true,Agf] at h
 unfold Di A9
 exact ⟨by simpa using h.1,by simpa using h.2⟩
theorem REL.roll {i j:Nat} {ms:Au} {os:List Bool} {ks ks':Kns} {x:TCT B0} (h:Cf ms os j=true) (hk:tcB i ks=true→tcB i ks'=true) (hn:¬ i=j→tcB i ks'=tcB i ks):REL i (ms,os,ks) (Bf ms j x,os,ks'):=by
 obtain ⟨h1,h2⟩:=Ah9 h
 refine ⟨hk,fun e=>?_,fun e f=>?_⟩
 ·by_cases k:i=j
  ·subst k;rw [show Di os i=true from e] at h1;cases h1
  ·exact ⟨e,by show (A9 (Bf ms j x) i).1=_;rw [I4 k],hn k⟩
 ·by_cases k:i=j
  ·subst k;rw [show Fz (A9 ms i)=true from e] at h2;cases h2
  ·exact ⟨I4 k,rfl⟩
theorem B0i {l:TCT Am} {os:List Bool} {w fl:Int} {i j:Nat} {ms ms':Au} {ks:Kns} (h:slE l os w fl j ms=.inl ms'):REL i (ms,os,ks) (ms',os,ks):=by
 unfold slE at h
 cases h1:Cf ms os j with
 | false=>rw [h1] at h;cases h;exact .refl
 | true =>
  rw [h1] at h
  cases h0:Fi w fl j with
  | true=>rw [h0] at h;cases h;exact .refl
  | false =>
   rw [h0] at h
   cases h2:Gk l (A9 ms j).1 != 0 with
   | true=>rw [h2] at h;cases h
   | false =>
    rw [h2] at h
    cases h3:(Nq l (A9 ms j)).2.1 != 0 with
    | true=>rw [h3] at h;cases h
    | false=>rw [h3] at h;cases h;exact REL.roll h1 id (fun _=>rfl)
theorem B0j {bl:List (TCT A3)} {os:List Bool} {i j:Nat} {ms ms':Au} {ks:Kns} (h:stE bl os j ms=.inl ms'):REL i (ms,os,ks) (ms',os,ks):=by
 unfold stE at h
 cases h1:Cf ms os j with
 | false=>rw [h1] at h;cases h;exact .refl
 | true =>
  rw [h1] at h
  cases h3:(Qg (Ej bl j) (A9 ms j)).2.1 != 0 with
  | true=>rw [h3] at h;cases h
  | false=>rw [h3] at h;cases h;exact REL.roll h1 id (fun _=>rfl)
theorem B58 {i j:Nat} {t st k o:Int} (hk:(k==0)=false) (h:¬ i=j):tcB i [kn t st k (j:Int) o]=false:=by
 show (tcK i (kn t st k (j:Int) o)||false)=false
 unfold tcK kn
 rw [hk,Bool.false_and,Bool.or_false,Bool.or_false]
 exact beq_eq_false_iff_ne.2 (by show ¬ (j:Int)=(i:Int);omega)
theorem X1 {i:Nat} {a b:Kns} (h:tcB i a=true):tcB i (a++b)=true:=by rw [P8,h];rfl
theorem B0k {l:TCT Am} {t st:Int} {i j:Nat} {s s':S2} (h:lvE l t st j s=.inl s'):REL i s s':=by
 unfold lvE at h
 cases h1:As s.2.1 j (Aq .b) with
 | true=>rw [h1] at h;cases h;exact .refl
 | false =>
  rw [h1] at h
  cases h2:onB l (A9 s.1 j).1 with
  | true=>rw [h2] at h;cases h;exact .refl
  | false =>
   rw [h2] at h
   cases h
   by_cases k:i=j
   ·subst k
    refine ⟨X1,fun e=>?_,fun e f=>?_⟩
    ·unfold Di at e;rw [h1] at e;cases e
    ·have:tcB i (s.2.2++[kn t st 2 (i:Int) 0])=true:=by
      rw [P8]
      have:tcB i [kn t st 2 (i:Int) 0]=true:=by
       show (tcK i (kn t st 2 (i:Int) 0)||false)=true
       unfold tcK kn
       rw [beq_self_eq_true];rfl
      rw [this,Bool.or_true]
     rw [show tcB i (s.2.2++[kn t st 2 (i:Int) 0])=false from f] at this
     cases this
   ·refine ⟨X1,fun e=>⟨?_,?_,?_⟩,fun e f=>⟨?_,?_⟩⟩
    ·show Di (Bf s.2.1 j true) i=true;rw [A30 k];exact e
    ·show (A9 (Bf s.1 j _) i).1=_;rw [I4 k]
    ·show tcB i (s.2.2++[_])=_;rw [P8,B58 rfl k,Bool.or_false]
    ·exact I4 k
    ·exact A30 k
def UN (s s':SS):Prop:=(∀ p ∈ s.2,p ∈ s'.2)∧∀ k:Nat,(∀ p ∈ s'.2,¬ p.1=(k:Int)∧¬ p.2.1=(k:Int))→A9 s'.1 k=A9 s.1 k
theorem UN.refl {s:SS}:UN s s:=⟨fun _ h=>h,fun _ _=>rfl⟩
theorem UN.trans {a b c:SS} (h:UN a b) (k:UN b c):UN a c:=⟨fun p hp=>k.1 p (h.1 p hp),fun j hj=>(k.2 j hj).trans (h.2 j fun p hp=>hj p (k.1 p hp))⟩
theorem Asb {l:List (TCT A3)} {re dr:Int} {i k:Nat} {s s':SS} (h:Fe l re dr i k s=some s'):UN s s':=by
 unfold Fe at h
 cases h1:(C4 (bAt l s.1 i) (bAt l s.1 k) re dr).2.2.1==0 with
 | true =>
  rw [h1] at h
  simp only [cond_true,Option.some.injEq] at h
  subst h
  refine ⟨fun p hp=>List.mem_append.2 (.inl hp),fun j hj=>?_⟩
  have:=hj ((i:Int),(k:Int),()) (List.mem_append.2 (.inr (List.mem_singleton.2 rfl)))
  have n1:¬ j=i:=fun e=>this.1 (by show (i:Int)=(j:Int);omega)
  have n2:¬ j=k:=fun e=>this.2 (by show (k:Int)=(j:Int);omega)
  show A9 (Bf (Bf s.1 i _) k _) j=_
  rw [I4 n2,I4 n1]
 | false =>
  rw [h1,cond_false] at h
  cases h2:(C4 (bAt l s.1 i) (bAt l s.1 k) re dr).2.2.1==4 with
  | true=>rw [h2] at h;simp at h
  | false=>rw [h2] at h;simp only [cond_false,Option.some.injEq] at h;subst h;exact .refl
theorem Asd {l:List (TCT A3)} {re dr:Int} {i:Nat}:∀ (f k:Nat) (s s':SS),V.inR l re dr i f k s=some s'→UN s s'
 | 0,k,s,s',h=>by rw [V.inR,Option.some.injEq] at h;subst h;exact .refl
 | f+1,k,s,s',h=>by
  rw [V.inR] at h
  cases h1:Fe l re dr i k s with
  | none=>rw [h1] at h;simp at h
  | some s1 =>
   rw [h1,Option.bind_some] at h
   exact (Asb h1).trans (Asd f (k+1) s1 s' h)
theorem Aha {l:List (TCT A3)} {re dr:Int}:∀ (f i:Nat) (s s':SS),I5 l re dr f i s=some s'→UN s s'
 | 0,i,s,s',h=>by rw [M1,Option.some.injEq] at h;subst h;exact .refl
 | f+1,i,s,s',h=>by
  rw [Jt] at h
  cases h1:V.inR l re dr i (l.length-(i+1)) (i+1) s with
  | none=>rw [h1] at h;simp at h
  | some s1 =>
   rw [h1,Option.bind_some] at h
   exact (Asd _ _ _ _ h1).trans (Aha f (i+1) s1 s' h)
theorem Akf {l:List (TCT A3)} {s:Au} {re dr:Int} (h:(Bw l s re dr).2.2.1=0):∀ k:Nat,(∀ p ∈ (Bw l s re dr).2.1,¬ p.1=(k:Int)∧¬ p.2.1=(k:Int))→A9 (Bw l s re dr).1 k=A9 s k:=by
 unfold Bw at h ⊢
 cases h1:Mk l s != 0 with
 | true=>rw [h1,cond_true] at h;exact absurd h (bne_iff_ne.1 h1)
 | false =>
  rw [h1,cond_false] at h
  simp only [cond_false]
  cases h2:!Hw re dr with
  | true=>rw [h2] at h;cases h
  | false =>
   rw [h2,cond_false] at h
   simp only [cond_false]
   cases h3:I5 l re dr l.length 0 (s,[]) with
   | none=>rw [h3] at h;cases h
   | some s'=>exact (Aha _ _ _ _ h3).2
theorem Adg {W:List Int} {P:Prs} {t st:Int}:∀ (k i:Nat) (ks:Kns),i+k=P.length→∃ l:Kns,unE (Ax (kpE W P t st) i k ks)=ks++l∧(∀ x ∈ l,∃ p ∈ P,x=knP t st W p)∧∀ j,i≤j→j<P.length→knP t st W (Lz P j) ∈ l
 | 0,i,ks,h=>⟨[],(List.append_nil ks).symm,(fun x hx=>nomatch hx),fun j h1 h2=>by omega⟩
 | k+1,i,ks,h=>by
  obtain ⟨l,e1,e2,e3⟩:=Adg (W:=W) (P:=P) (t:=t) (st:=st) k (i+1) (ks++[knP t st W (Lz P i)]) (by omega)
  refine ⟨knP t st W (Lz P i)::l,?_,fun x hx=>?_,fun j h1 h2=>?_⟩
  ·show unE (Ax (kpE W P t st) (i+1) k (ks++[knP t st W (Lz P i)]))=_
   rw [e1,List.append_assoc];rfl
  ·rcases List.mem_cons.1 hx with rfl | hx
   ·exact ⟨_,Ex (by omega) _,rfl⟩
   ·exact e2 x hx
  ·by_cases e:j=i
   ·rw [e];exact List.mem_cons_self
   ·exact List.mem_cons_of_mem _ (e3 j (by omega) h2)
theorem A8o {a:Int} {i:Nat} (h:a=(i:Int)):Int.toNat a=i:=by omega
theorem A8p {a:Int} {i:Nat} (h0:0≤a) (h:Int.toNat a=i):a=(i:Int):=by omega
theorem Adh {W:List Int} {M ms:Au} {i:Nat}:∀ (k j:Nat) (x:Au),j+k=W.length→(∀ k',k'<W.length→Int.toNat (As W k' (Aq cI))=i→A9 M k'=A9 ms i)→A9 x i=A9 ms i→A9 (unE (Ax (scE W M) j k x)) i=A9 ms i
 | 0,_,_,_,_,h=>h
 | k+1,j,x,hk,hw,h=>by
  show A9 (unE (Ax (scE W M) (j+1) k (Bf x (Int.toNat (As W j (Aq cI))) (A9 M j)))) i=_
  refine Adh k (j+1) _ (by omega) hw ?_
  by_cases e:i=Int.toNat (As W j (Aq cI))
  ·show As (Bf x (Int.toNat (As W j (Aq cI))) (A9 M j)) i (Aq B0)=A9 ms i
   rcases K6 (d:=Aq B0) x (Int.toNat (As W j (Aq cI))) i (A9 M j) with e2 | e2
   ·rw [e2];exact hw j (by omega) e.symm
   ·rw [e2];exact h
  ·rw [I4 e];exact h
theorem Ahb {bl:List (TCT A3)} {c:TCT Cj} {t st w fl:Int} {n i:Nat} {s:S2} {r:Au×Kns} (hn8:n≤8) (h:seF bl c t st w fl n s=.inl r):REL i s (r.1,s.2.1,r.2):=by
 unfold seF at h
 cases he:(seS bl c w fl n s).2.2.1 != 0 with
 | true=>rw [he] at h;cases h
 | false =>
  rw [he] at h
  cases h
  have e0:=bne_eq_false_iff_eq.1 he
  have hG:InvH s.1 s.2.1 n n (seG bl w fl n s):=A2z
  have hS:=U7 hn8 e0
  obtain ⟨l,k1,k2,k3⟩:=Adg (W:=(seG bl w fl n s).1) (P:=(seS bl c w fl n s).2.1) (t:=t) (st:=st) (seS bl c w fl n s).2.1.length 0 s.2.2 (by omega)
  have hk:kpV (seG bl w fl n s).1 (seS bl c w fl n s).2.1 t st s.2.2=s.2.2++l:=k1
  have hball:∀ a:Int,0≤a→a<((seG bl w fl n s).1.length:Int)→0≤As (seG bl w fl n s).1 (Int.toNat a) (Aq cI)∧Di s.2.1 (Int.toNat (As (seG bl w fl n s).1 (Int.toNat a) (Aq cI)))=false:=fun a h0 h1=>by
   have hlt:Int.toNat a<(seG bl w fl n s).1.length:=by omega
   exact ⟨(hG.g.r _ (Ex hlt (Aq cI))).1,(hG.h _ hlt).2⟩
  refine ⟨fun e=>?_,fun e=>⟨e,?_,?_⟩,fun e f=>⟨?_,rfl⟩⟩
  ·show tcB i (kpV _ _ _ _ _)=true
   rw [hk];exact X1 e
  ·have:A9 (scV (seG bl w fl n s).1 (seS bl c w fl n s).1 s.1) i=A9 s.1 i:=Adh (ms:=s.1) (seG bl w fl n s).1.length 0 s.1 (by omega) (fun k' hk' e2=>by
    have:=(hG.h k' hk').2
    rw [e2,show Di s.2.1 i=true from e] at this
    cases this) rfl
   show (A9 (scV _ _ _) i).1=_
   rw [this]
  ·show tcB i (kpV _ _ _ _ _)=_
   rw [hk,P8]
   have:tcB i l=false:=by
    unfold tcB
    rw [List.any_eq_false]
    intro x hx
    obtain ⟨p,hp,rfl⟩:=k2 x hx
    have pr:U6 (seG bl w fl n s).1.length p:=hS.2.2 p hp
    have b1:=hball p.1 pr.1 (Int.lt_trans pr.2.1 pr.2.2)
    have b2:=hball p.2.1 (Int.le_of_lt (Int.lt_of_le_of_lt pr.1 pr.2.1)) pr.2.2
    unfold tcK knP kn
    intro hc
    simp only [Bool.or_eq_true,Bool.and_eq_true,beq_iff_eq] at hc
    rcases hc with hc | hc
    ·have e2:Int.toNat (As (seG bl w fl n s).1 (Int.toNat p.1) (Aq cI))=i:=A8o hc
     rw [e2,show Di s.2.1 i=true from e] at b1
     cases b1.2
    ·have e2:Int.toNat (As (seG bl w fl n s).1 (Int.toNat p.2.1) (Aq cI))=i:=A8o hc.2
     rw [e2,show Di s.2.1 i=true from e] at b2
     cases b2.2
   rw [this,Bool.or_false]
  ·have f':tcB i (s.2.2++l)=false:=by rw [← hk];exact f
   rw [P8,Bool.or_eq_false_iff] at f'
   refine Adh (ms:=s.1) (seG bl w fl n s).1.length 0 s.1 (by omega) (fun k' hk' e2=>?_) rfl
   have g1:=(hG.h k' hk').1
   rw [e2] at g1
   rw [← g1]
   refine Akf e0 k' fun p hp=>?_
   have pr:U6 (seG bl w fl n s).1.length p:=hS.2.2 p hp
   obtain ⟨q,hq,hpq⟩:∃ q,q<(seS bl c w fl n s).2.1.length∧Lz (seS bl c w fl n s).2.1 q=p:=by
    obtain ⟨q,hq,e⟩:=List.getElem_of_mem hp
    exact ⟨q,hq,(De hq (Aq Hk)).trans e⟩
   have hx:=k3 q (Nat.zero_le _) hq
   rw [hpq] at hx
   have nt:¬ tcK i (knP t st (seG bl w fl n s).1 p)=true:=by
    have:=f'.2
    unfold tcB at this
    rw [List.any_eq_false] at this
    exact this _ hx
   have hr:=(hG.g.r _ (Ex hk' (Aq cI))).1
   refine ⟨fun e3=>nt ?_,fun e3=>nt ?_⟩
   ·unfold tcK knP kn
    simp only [Bool.or_eq_true,beq_iff_eq]
    refine .inl ?_
    rw [e3,show Int.toNat (k':Int)=k' from rfl]
    exact A8p hr e2
   ·unfold tcK knP kn
    simp only [Bool.or_eq_true,Bool.and_eq_true,beq_iff_eq]
    refine .inr ⟨trivial,?_⟩
    rw [e3,show Int.toNat (k':Int)=k' from rfl]
    exact A8p hr e2
end St
end V
end Go.Proofs.YtlangijnealfjaaGreat
namespace Go.Proofs.YtlangijnealfjaaGreat
open Go.RowKit
namespace V
namespace St
theorem B0l {bl:TCT A3} {c:TCT Cj} {ps:Dss} {os:List Bool} {w fl t st:Int} {i j k:Nat} {s:MK}:(∀ s',bpE bl c ps os w fl t st j k s=.inl s'→REL i (s.1,os,s.2) (s'.1,os,s'.2))∧(∀ s',bpE bl c ps os w fl t st j k s=.inr (.inl s')→s'=s):=by
 unfold bpE
 cases h1:Cf s.1 os j with
 | false=>exact ⟨(fun s' h=>by cases h),(fun s' h=>by cases h;rfl)⟩
 | true =>
  cases h0:Fi w fl j with
  | true=>exact ⟨(fun s' h=>by cases h),(fun s' h=>by cases h;rfl)⟩
  | false =>
   simp only [Bool.not_true,Bool.or_self,cond_false]
   cases h2:(bmV bl (A9 s.1 j) (Fc ps k) c).2.1==0 with
   | true =>
    refine ⟨(fun s' h=>?_),(fun s' h=>by cases h)⟩
    cases h
    exact REL.roll h1 X1 (fun hn=>by rw [P8,B58 rfl hn,Bool.or_false])
   | false =>
    simp only [cond_false]
    cases h3:(bmV bl (A9 s.1 j) (Fc ps k) c).2.1==4 with
    | true=>exact ⟨(fun s' h=>by cases h),(fun s' h=>by cases h)⟩
    | false=>exact ⟨(fun s' h=>by cases h;exact .refl),(fun s' h=>by cases h)⟩
theorem Ahc {bl:TCT A3} {c:TCT Cj} {ps:Dss} {os:List Bool} {w fl t st:Int} {i j:Nat}:∀ (m k:Nat) (s s':MK),Yd (Ax (bpE bl c ps os w fl t st j) k m s)=.inl s'→REL i (s.1,os,s.2) (s'.1,os,s'.2)
 | 0,k,s,s',h=>by cases h;exact .refl
 | m+1,k,s,s',h=>by
  unfold Ax at h
  have a:=B0l (bl:=bl) (c:=c) (ps:=ps) (os:=os) (w:=w) (fl:=fl) (t:=t) (st:=st) (i:=i) (j:=j) (k:=k) (s:=s)
  cases hf:bpE bl c ps os w fl t st j k s with
  | inl t1=>rw [hf] at h;exact (a.1 t1 hf).trans (Ahc m (k+1) t1 s' h)
  | inr y =>
   rw [hf] at h
   cases y with
   | inl t1 =>
    have e:=a.2 t1 hf
    subst e
    cases h
    exact .refl
   | inr e=>cases h
theorem B0m {bl:List (TCT A3)} {c:TCT Cj} {ps:Dss} {t st w fl:Int} {n i:Nat} {s:S2} {s':MK} (h:buF bl c ps t st w fl n s=.inl s'):REL i s (s'.1,s.2.1,s'.2):=by
 unfold buF at h
 exact B6 (n:=n) (Inv:=fun _ (x:MK)=>REL i s (x.1,s.2.1,x.2)) (fun j x x' _ hx h2=>hx.trans (Ahc ps.length 0 x x' h2)) n 0 (s.1,s.2.2) s' (by omega) .refl h
theorem B0n {bl:List (TCT A3)} {l:TCT Am} {t st:Int} {n i:Nat} {s s':S2} (h:mvF bl l t st n s=.inl s'):REL i s s':=by
 unfold mvF at h
 cases h1:Ax (stE bl s.2.1) 0 n s.1 with
 | inr e=>rw [h1] at h;cases h
 | inl ms =>
  rw [h1] at h
  have a:REL i s (ms,s.2.1,s.2.2):=B6 (n:=n) (Inv:=fun _ (x:Au)=>REL i s (x,s.2.1,s.2.2)) (fun j x x' _ hx h2=>hx.trans (B0j h2)) n 0 s.1 ms (by omega) .refl h1
  have h2:Ax (lvE l t st) 0 n (ms,s.2.1,s.2.2)=.inl s':=h
  exact B6 (n:=n) (Inv:=fun _ (x:S2)=>REL i s x) (fun j x x' _ hx h3=>hx.trans (B0k h3)) n 0 (ms,s.2.1,s.2.2) s' (by omega) a h2
theorem B0o {k:CT} {i j:Nat} {s s':S2} (hn8:k.bl.length≤8) (h:tkE k j s=.inl s'):REL i s s':=by
 unfold tkE at h
 cases h1:mvF k.bl k.l k.t ((j+1:Nat):Int) k.bl.length s with
 | inr e=>rw [h1] at h;cases h
 | inl s1 =>
  rw [h1] at h
  simp only at h
  have a:REL i s s1:=B0n h1
  cases h2:seF k.bl k.c k.t ((j+1:Nat):Int) k.w k.fl k.bl.length s1 with
  | inr e=>rw [h2] at h;cases h
  | inl s2 =>
   rw [h2] at h
   simp only at h
   have b:REL i s1 (s2.1,s1.2.1,s2.2):=Ahb hn8 h2
   cases h3:buF k.bl k.c k.ps k.t ((j+1:Nat):Int) k.w k.fl k.bl.length (s2.1,s1.2.1,s2.2) with
   | inr e=>rw [h3] at h;cases h
   | inl s3 =>
    rw [h3] at h
    cases h
    have d:REL i (s2.1,s1.2.1,s2.2) (s3.1,s1.2.1,s3.2):=B0m h3
    exact (a.trans b).trans d
theorem Ahd {k:CT} {i:Nat} {s s':S2} (hn8:k.bl.length≤8) (h:tkF k s=.inl s'):REL i s s':=by
 unfold tkF at h
 cases h0:k.t==4000 with
 | true=>rw [h0] at h;cases h
 | false =>
  rw [h0] at h
  simp only [cond_false] at h
  cases h1:Ax (slE k.l s.2.1 k.w k.fl) 0 k.bl.length s.1 with
  | inr e=>rw [h1] at h;cases h
  | inl ms =>
   rw [h1] at h
   have a:REL i s (ms,s.2.1,s.2.2):=B6 (n:=k.bl.length) (Inv:=fun _ (x:Au)=>REL i s (x,s.2.1,s.2.2)) (fun j x x' _ hx h2=>hx.trans (B0i h2)) k.bl.length 0 s.1 ms (by omega) .refl h1
   have h2:Ax (tkE k) 0 16 (ms,s.2.1,s.2.2)=.inl s':=h
   exact B6 (n:=16) (Inv:=fun _ (x:S2)=>REL i s x) (fun j x x' _ hx h3=>hx.trans (B0o hn8 h3)) 16 0 (ms,s.2.1,s.2.2) s' (by omega) a h2
def AS (ms:Au):Prop:=∀ j:Nat,Fz (A9 ms j)=true
theorem AS.roll {ms:Au} {os:List Bool} {j:Nat} (h:AS ms):Cf ms os j=false:=by
 cases hr:Cf ms os j with
 | false=>rfl
 | true =>
  have:=(Ah9 hr).2
  rw [h j] at this
  cases this
structure NH (s s':S2):Prop where
 m:∀ j:Nat,A9 s'.1 j=A9 s.1 j
 o:s'.2.1=s.2.1
 k:s'.2.2=s.2.2
theorem NH.refl {s:S2}:NH s s:=⟨fun _=>rfl,rfl,rfl⟩
theorem NH.trans {a b c:S2} (h:NH a b) (k:NH b c):NH a c:=⟨fun j=>(k.m j).trans (h.m j),k.o.trans h.o,k.k.trans h.k⟩
theorem NH.as {a b:S2} (h:NH a b) (k:AS a.1):AS b.1:=fun j=>by rw [h.m j];exact k j
theorem NH.ol {a b:S2} {l:TCT Am} {n:Nat} (h:NH a b) (k:OL l n a.1 a.2.1):OL l n b.1 b.2.1:=fun j hj e=>by
 rw [h.m j];rw [h.o] at e;exact k j hj e
end St
end V
end Go.Proofs.YtlangijnealfjaaGreat
