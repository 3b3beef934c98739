import Derived.Test.YtlangijnealfjaaGreatCq
namespace Go.Proofs.YtlangijnealfjaaGreat
open Go.RowKit
namespace V
namespace St
def A06 (k:Int):Int:=bif 1==k then 150 else bif 2==k then 500 else bif 3==k then 900 else 0
def Avl (k:Int):Bool:=decide (max k (W64 (0-k))>16777216)
abbrev cBw:TC:=.st [cI,cPt,cI,cI]
theorem J9 {α:Type} {d:α} (l:List α) (i j:Nat) (x:α):Al (B9 l i x) j d=x∨Al (B9 l i x) j d=Al l j d:=by
 rw [Bf,Cf,Cf,List.getD_eq_getElem?_getD,List.getD_eq_getElem?_getD,List.getElem?_set]
 by_cases h:i=j
 ·subst h
  rw [if_pos rfl]
  by_cases h2:i<l.length
  ·rw [if_pos h2];exact .inl rfl
  ·rw [if_neg h2,List.getElem?_eq_none (Nat.le_of_not_lt h2)];exact .inr rfl
 ·rw [if_neg h];exact .inr rfl
def smB (m:TCT Au):Bool:=B1 m.2.1.1 m.2.1.2.1
def SM (l:Ar):Prop:=∀ j:Nat,smB (A9 l j)=true
theorem SM.set {l:Ar} {i:Nat} {x:TCT Au} (h:SM l) (hx:smB x=true):SM (B9 l i x):=fun j=>by
 unfold A9
 rcases J9 (d:=Ak Au) l i j x with e | e
 ·rw [e];exact hx
 ·rw [e];exact h j
theorem B2e {a b:Bm} {k:Of} (h:(Gf a b k).2.2.1=0):smB (Gf a b k).1=true∧smB (Gf a b k).2.1=true:=by
 unfold Gf at h ⊢
 cases h1:k.2.1 != 0 with
 | true=>rw [h1] at h;exact absurd h (bne_iff_ne.1 h1)
 | false =>
  rw [h1] at h
  simp only [cond_false] at h ⊢
  cases h2:B1 (W64 (a.mx-k.1.1)) (W64 (a.my-k.1.2.1)) with
  | false=>rw [h2] at h;cases h
  | true =>
   rw [h2] at h
   simp only [Bool.not_true,cond_false] at h ⊢
   cases h3:B1 (W64 (b.mx+k.1.1)) (W64 (b.my+k.1.2.1)) with
   | false=>rw [h3] at h;cases h
   | true=>exact ⟨h2,h3⟩
theorem A6d {l:List (TCT A2)} {re dr:Int} {i k:Nat} {s s':SS} (h:Ed l re dr i k s=some s') (hs:SM s.1):SM s'.1:=by
 unfold Ed at h
 cases h1:(Bj (bAt l s.1 i) (bAt l s.1 k) re dr).2.2.1==0 with
 | true =>
  rw [h1] at h
  simp only [cond_true,Option.some.injEq] at h
  subst h
  have b:=B2e (a:=bAt l s.1 i) (b:=bAt l s.1 k) (k:=Ge (bAt l s.1 i) (bAt l s.1 k) re dr) (beq_iff_eq.1 h1)
  exact SM.set (SM.set hs b.1) b.2
 | false =>
  rw [h1,cond_false] at h
  cases h2:(Bj (bAt l s.1 i) (bAt l s.1 k) re dr).2.2.1==4 with
  | true=>rw [h2] at h;simp at h
  | false=>rw [h2] at h;simp only [cond_false,Option.some.injEq] at h;subst h;exact hs
theorem Aal {l:List (TCT A2)} {re dr:Int} {i:Nat}:∀ (f k:Nat) (s s':SS),V.inR l re dr i f k s=some s'→SM s.1→SM s'.1
 | 0,k,s,s',h,hs=>by rw [V.inR,Option.some.injEq] at h;subst h;exact hs
 | f+1,k,s,s',h,hs=>by
  rw [V.inR] at h
  cases h1:Ed l re dr i k s with
  | none=>rw [h1] at h;simp at h
  | some s1 =>
   rw [h1,Option.bind_some] at h
   exact Aal f (k+1) s1 s' h (A6d h1 hs)
theorem Ae0 {l:List (TCT A2)} {re dr:Int}:∀ (f i:Nat) (s s':SS),Hd l re dr f i s=some s'→SM s.1→SM s'.1
 | 0,i,s,s',h,hs=>by rw [Iw,Option.some.injEq] at h;subst h;exact hs
 | f+1,i,s,s',h,hs=>by
  rw [He] at h
  cases h1:V.inR l re dr i (l.length-(i+1)) (i+1) s with
  | none=>rw [h1] at h;simp at h
  | some s1 =>
   rw [h1,Option.bind_some] at h
   exact Ae0 f (i+1) s1 s' h (Aal _ _ _ _ h1 hs)
theorem Aam:∀ (l:List (TCT A2)) (s:Ar),l.length=s.length→(l.zip s).all P4=true→SM s
 | [],[],_,_=>fun _=>rfl
 | [],_::_,h,_=>by simp at h
 | _::_,[],h,_=>by simp at h
 | b::l,m::s,h,k=>by
  rw [List.zip_cons_cons,List.all_cons,Bool.and_eq_true] at k
  have h':l.length=s.length:=by simpa using h
  have ih:=Aam l s h' k.2
  intro j
  cases j with
  | zero =>
   have:=k.1
   unfold P4 Bm.ok P8 at this
   simp only [Bool.and_eq_true] at this
   exact this.2.2.1
  | succ j=>exact ih j
theorem A19 {l:List (TCT A2)} {s:Ar} {re dr:Int} (h:(Bi l s re dr).2.2.1=0):SM (Bi l s re dr).1:=by
 unfold Bi at h ⊢
 cases h1:Kn l s != 0 with
 | true=>rw [h1,cond_true] at h;exact absurd h (bne_iff_ne.1 h1)
 | false =>
  rw [h1,cond_false] at h
  simp only [cond_false]
  cases h2:!Gl re dr with
  | true=>rw [h2] at h;cases h
  | false =>
   rw [h2,cond_false] at h
   simp only [cond_false]
   cases h3:Hd l re dr l.length 0 (s,[]) with
   | none=>rw [h3] at h;cases h
   | some s' =>
    obtain ⟨_,k2,k3⟩:=Aay (bne_eq_false_iff_eq.1 h1)
    have hz:SM s:=Aam l s k2 k3
    exact Ae0 _ _ _ _ h3 hz
theorem B2f {W:List Int} {M ms:Ar} (hM:SM M) (hs:SM ms):SM (scV W M ms) :=
 Az (n:=W.length) (Inv:=fun _ (s:Ar)=>SM s) (fun i s s' _ h h2=>by
  cases h2
  exact SM.set h (hM i)) W.length 0 ms _ (by omega) hs (I8 (An (scE W M) 0 W.length ms))
theorem B2g {bl:List (TCT A2)} {c:TCT Cc} {t st w fl:Int} {n:Nat} {s:S2} {r:Ar×Kns} (h:seF bl c t st w fl n s=.inl r) (hs:SM s.1):SM r.1:=by
 unfold seF at h
 cases he:(seS bl c w fl n s).2.2.1 != 0 with
 | true=>rw [he] at h;cases h
 | false =>
  rw [he] at h
  cases h
  exact B2f (A19 (bne_eq_false_iff_eq.1 he)) hs
theorem B7o {n d l:Int} (hd:1≤d) (h1 : -(l*d)≤n) (h2:n≤l*d) : -l≤DW n d∧DW n d≤l:=by
 unfold DW
 have e1:(-l)*(2*d) = -(2*(l*d)):=by grind
 have e2:(l+1)*(2*d)=2*(l*d)+2*d:=by grind
 refine ⟨Int.le_ediv_of_mul_le (by omega) (by omega),?_⟩
 have:(2*n+d) / (2*d)<l+1:=Int.ediv_lt_of_lt_mul (by omega) (by omega)
 omega
theorem Azc {x y d:Int} (h:(x*x+y*y)*4096<(d+1)*(d+1)) (hd:0≤d) : -d≤64*x∧64*x≤d:=by
 have hy:0≤y*y:=Gu y
 constructor
 ·by_cases k : -d≤64*x
  ·exact k
  ·have a:d+1 ≤ -(64*x):=by omega
   have b:=Int.mul_le_mul a a (by omega) (by omega)
   have e : -(64*x) * -(64*x)=(x*x)*4096:=by grind
   rw [e] at b
   omega
 ·by_cases k:64*x≤d
  ·exact k
  ·have a:d+1≤64*x:=by omega
   have b:=Int.mul_le_mul a a (by omega) (by omega)
   have e:64*x*(64*x)=(x*x)*4096:=by grind
   rw [e] at b
   omega
theorem Azd {x d l:Int} (hd:1≤d) (hl:0≤l) (h : -d≤64*x∧64*x≤d) : -l≤ToX x 0 d l∧ToX x 0 d l≤l:=by
 unfold ToX
 have e:64*l*(x-0)=l*(64*x):=by grind
 have a:=Int.mul_le_mul_of_nonneg_left h.1 hl
 have b:=Int.mul_le_mul_of_nonneg_left h.2 hl
 rw [Int.mul_neg] at a
 rw [e,Int.zero_add]
 exact B7o hd a b
theorem Aze {x y l:Int} (hf:fpt x y=true) (hne:(x==0&&(y==0&&true))=false) (hl:1≤l∧l≤2097152):(TwR x y 0 0 l).2=0∧(-2097152≤(TwR x y 0 0 l).1.1∧(TwR x y 0 0 l).1.1≤2097152)∧(-2097152≤(TwR x y 0 0 l).1.2∧(TwR x y 0 0 l).1.2≤2097152):=by
 have h0:fpt 0 0=true:=by decide
 rw [Bool.and_true] at hne
 have hne2:¬ (x=0∧y=0):=by
  intro hh;rw [hh.1,hh.2] at hne;cases hne
 have hd:=Apo hf h0 hne2
 have hs:=Aer hf h0
 obtain ⟨r1,r2,r3⟩:=Gt (sq x y 0 0*4096) (by omega)
 have hdd:dTo x y 0 0=rt (sq x y 0 0*4096):=rfl
 rw [← hdd] at r1 r2 r3
 have hsq:sq x y 0 0=x*x+y*y:=by unfold sq;grind
 rw [hsq] at r3
 have a:=Azc r3 r1
 have b:=Azc (x:=y) (y:=x) (d:=dTo x y 0 0) (by rw [Int.add_comm (y*y)];exact r3) r1
 have c1:=Azd hd.1 (show 0≤l by omega) a
 have c2:=Azd hd.1 (show 0≤l by omega) b
 have ho:B6 l 0 4194304=false:=by
  unfold B6
  rw [decide_eq_false (show ¬ l<0 by omega),decide_eq_false (show ¬ 4194304<l by omega)];rfl
 have hfp:fpt (ToX x 0 (dTo x y 0 0) l) (ToX y 0 (dTo x y 0 0) l)=true:=by
  unfold fpt
  exact decide_eq_true (by omega)
 have e:TwR x y 0 0 l=((ToX x 0 (dTo x y 0 0) l,ToX y 0 (dTo x y 0 0) l),0):=by
  unfold TwR
  rw [hf,h0,ho,hne,hfp];rfl
 rw [e]
 exact ⟨rfl,⟨by show -2097152≤ToX x 0 _ l;omega,by show ToX x 0 _ l≤2097152;omega⟩,⟨by show -2097152≤ToX y 0 _ l;omega,by show ToX y 0 _ l≤2097152;omega⟩⟩
end St
end V
end Go.Proofs.YtlangijnealfjaaGreat
namespace Go.Proofs.YtlangijnealfjaaGreat
open Go.RowKit
namespace V
namespace St
def bwB (n:Int) (w:TCT cBw):Bool:=decide (w.1<0)||(decide (w.1≥n)||(!fpt w.2.1.1 w.2.1.2.1||((w.2.1.1==0&&(w.2.1.2.1==0&&true))||(decide (w.2.2.1<1)||(decide (w.2.2.1>2097152)||(decide (w.2.2.2.1<0)||decide (w.2.2.2.1>4)))))))
structure BwOk (n:Int) (w:TCT cBw):Prop where
 b:0≤w.1∧w.1<n
 f:fpt w.2.1.1 w.2.1.2.1=true
 z:(w.2.1.1==0&&(w.2.1.2.1==0&&true))=false
 p:1≤w.2.2.1∧w.2.2.1≤2097152
 k:0≤w.2.2.2.1∧w.2.2.2.1≤4
theorem B7p {n:Int} {w:TCT cBw} (h:bwB n w=false):BwOk n w:=by
 unfold bwB at h
 rw [Bool.or_eq_false_iff,Bool.or_eq_false_iff,Bool.or_eq_false_iff,Bool.or_eq_false_iff,Bool.or_eq_false_iff,Bool.or_eq_false_iff,Bool.or_eq_false_iff] at h
 obtain ⟨h1,h2,h3,h4,h5,h6,h7,h8⟩:=h
 have a1:=of_decide_eq_false h1
 have a2:=of_decide_eq_false h2
 have a5:=of_decide_eq_false h5
 have a6:=of_decide_eq_false h6
 have a7:=of_decide_eq_false h7
 have a8:=of_decide_eq_false h8
 exact ⟨⟨Int.not_lt.1 a1,Int.not_le.1 a2⟩,by simpa using h3,h4,⟨Int.not_lt.1 a5,Int.not_lt.1 a6⟩,⟨Int.not_lt.1 a7,Int.not_lt.1 a8⟩⟩
def twP (w:TCT cBw):TCT cPt:=((TwR w.2.1.1 w.2.1.2.1 0 0 w.2.2.1).1.1,(TwR w.2.1.1 w.2.1.2.1 0 0 w.2.2.1).1.2,())
def P3 (ms:Ar) (b:Int) (v:TCT cPt):Ar:=B9 ms (Int.toNat b) ((A9 ms (Int.toNat b)).1,(v.1,v.2.1,()),(A9 ms (Int.toNat b)).2.2.1,())
def mX (ms:Ar) (b d:Int):Ar:=B9 ms (Int.toNat b) ((A9 ms (Int.toNat b)).1,(W64 ((A9 ms (Int.toNat b)).2.1.1+d),(A9 ms (Int.toNat b)).2.1.2.1,()),(A9 ms (Int.toNat b)).2.2.1,())
def mY (ms:Ar) (b d:Int):Ar:=B9 ms (Int.toNat b) ((A9 ms (Int.toNat b)).1,((A9 ms (Int.toNat b)).2.1.1,W64 ((A9 ms (Int.toNat b)).2.1.2.1+d),()),(A9 ms (Int.toNat b)).2.2.1,())
def fwD (m k:Int):Int:=W64 (Int.tdiv (W64 (m*A06 k)) 1000)
def B2h (ms:Ar) (os:List Bool) (b fl:Int) (ks:Kns):TkR:=((ms,os,b,fl,0,()),ks,0,())
def skM (ms:Ar) (w:TCT cBw):Ar:=mY (mX ms w.1 (fwD (twP w).1 w.2.2.2.1)) w.1 (fwD (twP w).2.1 w.2.2.2.1)
def Agw (ms:Ar) (b:Int):Bool:=Avl (A9 ms (Int.toNat b)).2.1.1||Avl (A9 ms (Int.toNat b)).2.1.2.1
def skF (os:List Bool) (w:TCT cBw):(Ar×Kns)⊕Int→TkR
 | .inr e=>A33 e
 | .inl (ms,ks)=>bif decide ((ks.length:Int)>0) then bif Agw (skM ms w) w.1 then A33 4 else B2h (skM ms w) os w.1 0 ks else B2h ms os w.1 0 ks
def skG (g:TCT cGr) (s:TCT cSt) (w:TCT cBw):TkR:=bif w.2.2.2.1==4 then B2h (P3 (msT s) w.1 (twP w)) (osT s) w.1 8 [] else skF (osT s) w (seF (A5 g) g.2.2.1 0 0 w.1 0 (A5 g).length (P3 (msT s) w.1 (twP w),osT s,[]))
def skV (g:TCT cGr) (s:TCT cSt) (w:TCT cBw):TkR:=bif Gq g s != 0 then A33 (Gq g s) else bif bwB ((A5 g).length:Int) w then A33 2 else bif !Df s||Al (osT s) (Int.toNat w.1) (Ak .b) then A33 10 else skG g s w
end St
end V
end Go.Proofs.YtlangijnealfjaaGreat
namespace Go.Proofs.YtlangijnealfjaaGreat
open Go.RowKit
namespace V
namespace St
theorem Avm {bl:List (TCT A2)} {c:TCT Cc} {t st w fl:Int} {n:Nat} {s:S2} {r:Ar×Kns} (h:seF bl c t st w fl n s=.inl r):r.1.length=s.1.length:=by
 unfold seF at h
 cases he:(seS bl c w fl n s).2.2.1 != 0 with
 | true=>rw [he] at h;cases h
 | false =>
  rw [he] at h
  cases h
  exact Adt
end St
end V
end Go.Proofs.YtlangijnealfjaaGreat
