import Derived.Test.YtcfanlgpkefogaaGreatCq
namespace Go.Proofs.YtcfanlgpkefogaaGreat
open Go.RowKit
namespace V
namespace St
theorem is_sStrike2:FnIs Tryz.prog (48,Tryz.f48):=⟨Tryz.func48,by kernel_rfl,by kernel_rfl⟩
theorem is_sFollow:FnIs Tryz.prog (51,Tryz.f51):=⟨Tryz.func51,by kernel_rfl,by kernel_rfl⟩
theorem is_sStrong:FnIs Tryz.prog (52,Tryz.f52):=⟨Tryz.func52,by kernel_rfl,by kernel_rfl⟩
def Vb (k:Int):Int:=bif 1==k then 150 else bif 2==k then 500 else bif 3==k then 900 else 0
abbrev B6l:PureT:=Bz [cI] [cI] (fun _=>true) (fun x=>(Vb x.1,()))
def Att (k:Int):Tree (TCTs [cI]):=bif 1==k then .leaf (150,()) else bif 2==k then .leaf (500,()) else bif 3==k then .leaf (900,()) else .leaf (0,())
theorem Atu (k:Int):(Att k).sat (fun y=>y=(Vb k,())):=by
 unfold Att Vb
 cases (1:Int)==k <;> cases (2:Int)==k <;> cases (3:Int)==k <;> exact rfl
theorem Bgi:A5 Tryz.prog 51 B6l:=C5 (Qi (u:=4) Aw puOk_nil (fns_cons is_sFollow A1)) 6 (fun x=>Att x.1) (fun x=>by kernel_rfl) fun x _ _=>Atu x.1
def A2g (k:Int):Bool:=decide (max k (W64 (0-k))>16777216)
abbrev B6m:PureT:=Bz [cI] [.b] (fun _=>true) (fun x=>(A2g x.1,()))
theorem Bgj:A5 Tryz.prog 52 B6m:=C5 (B6 Aw puOk_nil (fns_cons is_sStrong A1)) 6 (fun x=>.leaf (A2g x.1,())) (fun x=>by kernel_rfl) fun _ _ _=>rfl
abbrev cBw:TC:=.st [cI,cPt,cI,cI]
abbrev plSk:List (Nat×PureT):=(51,B6l)::(52,B6m)::(23,A2v)::(43,K2)::(25,A5i)::plGm
theorem puSk:De Tryz.prog plSk:=puOk_cons is_sFollow.plain Bgi (puOk_cons is_sStrong.plain Bgj (puOk_cons is_Towards.plain Al2 (puOk_cons is_tChk.plain Lm (puOk_cons is_Posts.plain Aha puGm))))
noncomputable def Bkn:List (Nat×Func):=[(11,Tryz.f11),(48,Tryz.f48),(45,Tryz.f45),(47,Tryz.f47),(97,Tryz.f97),(49,Tryz.f49),(95,Tryz.f95),(96,Tryz.f96)]
noncomputable def Bgk (Y:YK):Ctx:=Ua Tryz.prog plSk Bkn [] [(50,Alv 46 Y)]
theorem Kq {α:Type} {d:α} (l:List α) (i j:Nat) (x:α):B7 (By l i x) j d=x∨B7 (By l i x) j d=B7 l j d:=by
 rw [C6,Fq,Fq,List.getD_eq_getElem?_getD,List.getD_eq_getElem?_getD,List.getElem?_set]
 by_cases h:i=j
 ·subst h
  rw [if_pos rfl]
  by_cases h2:i<l.length
  ·rw [if_pos h2];exact .inl rfl
  ·rw [if_neg h2,List.getElem?_eq_none (Nat.le_of_not_lt h2)];exact .inr rfl
 ·rw [if_neg h];exact .inr rfl
def smB (m:TCT Bg):Bool:=Bp m.2.1.1 m.2.1.2.1
def SM (l:B5):Prop:=∀ j:Nat,smB (A8 l j)=true
theorem SM.set {l:B5} {i:Nat} {x:TCT Bg} (h:SM l) (hx:smB x=true):SM (By l i x):=fun j=>by
 unfold A8
 rcases Kq (d:=B9 Bg) l i j x with e | e
 ·rw [e];exact hx
 ·rw [e];exact h j
theorem Bb1 {a b:Bm} {k:Qw} (h:(I6 a b k).2.2.1=0):smB (I6 a b k).1=true∧smB (I6 a b k).2.1=true:=by
 unfold I6 at h ⊢
 cases h1:k.2.1 != 0 with
 | true=>rw [h1] at h;exact absurd h (bne_iff_ne.1 h1)
 | false =>
  rw [h1] at h
  simp only [cond_false] at h ⊢
  cases h2:Bp (W64 (a.mx-k.1.1)) (W64 (a.my-k.1.2.1)) with
  | false=>rw [h2] at h;cases h
  | true =>
   rw [h2] at h
   simp only [Bool.not_true,cond_false] at h ⊢
   cases h3:Bp (W64 (b.mx+k.1.1)) (W64 (b.my+k.1.2.1)) with
   | false=>rw [h3] at h;cases h
   | true=>exact ⟨h2,h3⟩
theorem A9r {l:List (TCT A2)} {re dr:Int} {i k:Nat} {s s':SS} (h:Fz l re dr i k s=some s') (hs:SM s.1):SM s'.1:=by
 unfold Fz at h
 cases h1:(Ch (bAt l s.1 i) (bAt l s.1 k) re dr).2.2.1==0 with
 | true =>
  rw [h1] at h
  simp only [cond_true,Option.some.injEq] at h
  subst h
  have b:=Bb1 (a:=bAt l s.1 i) (b:=bAt l s.1 k) (k:=Wl (bAt l s.1 i) (bAt l s.1 k) re dr) (beq_iff_eq.1 h1)
  exact SM.set (SM.set hs b.1) b.2
 | false =>
  rw [h1,cond_false] at h
  cases h2:(Ch (bAt l s.1 i) (bAt l s.1 k) re dr).2.2.1==4 with
  | true=>rw [h2] at h;simp at h
  | false=>rw [h2] at h;simp only [cond_false,Option.some.injEq] at h;subst h;exact hs
theorem Aei {l:List (TCT A2)} {re dr:Int} {i:Nat}:∀ (f k:Nat) (s s':SS),V.inR l re dr i f k s=some s'→SM s.1→SM s'.1
 | 0,k,s,s',h,hs=>by rw [V.inR,Option.some.injEq] at h;subst h;exact hs
 | f+1,k,s,s',h,hs=>by
  rw [V.inR] at h
  cases h1:Fz l re dr i k s with
  | none=>rw [h1] at h;simp at h
  | some s1 =>
   rw [h1,Option.bind_some] at h
   exact Aei f (k+1) s1 s' h (A9r h1 hs)
theorem Aik {l:List (TCT A2)} {re dr:Int}:∀ (f i:Nat) (s s':SS),Iq l re dr f i s=some s'→SM s.1→SM s'.1
 | 0,i,s,s',h,hs=>by rw [Mr,Option.some.injEq] at h;subst h;exact hs
 | f+1,i,s,s',h,hs=>by
  rw [K8] at h
  cases h1:V.inR l re dr i (l.length-(i+1)) (i+1) s with
  | none=>rw [h1] at h;simp at h
  | some s1 =>
   rw [h1,Option.bind_some] at h
   exact Aik f (i+1) s1 s' h (Aei _ _ _ _ h1 hs)
theorem Aej:∀ (l:List (TCT A2)) (s:B5),l.length=s.length→(l.zip s).all Rp=true→SM s
 | [],[],_,_=>fun _=>rfl
 | [],_::_,h,_=>by simp at h
 | _::_,[],h,_=>by simp at h
 | b::l,m::s,h,k=>by
  rw [List.zip_cons_cons,List.all_cons,Bool.and_eq_true] at k
  have h':l.length=s.length:=by simpa using h
  have ih:=Aej l s h' k.2
  intro j
  cases j with
  | zero =>
   have:=k.1
   unfold Rp Bm.ok Qn at this
   simp only [Bool.and_eq_true] at this
   exact this.2.2.1
  | succ j=>exact ih j
theorem A3l {l:List (TCT A2)} {s:B5} {re dr:Int} (h:(Cf l s re dr).2.2.1=0):SM (Cf l s re dr).1:=by
 unfold Cf at h ⊢
 cases h1:Mq l s != 0 with
 | true=>rw [h1,cond_true] at h;exact absurd h (bne_iff_ne.1 h1)
 | false =>
  rw [h1,cond_false] at h
  simp only [cond_false]
  cases h2:!Hl re dr with
  | true=>rw [h2] at h;cases h
  | false =>
   rw [h2,cond_false] at h
   simp only [cond_false]
   cases h3:Iq l re dr l.length 0 (s,[]) with
   | none=>rw [h3] at h;cases h
   | some s' =>
    obtain ⟨_,k2,k3⟩:=Af5 (bne_eq_false_iff_eq.1 h1)
    have hz:SM s:=Aej l s k2 k3
    exact Aik _ _ _ _ h3 hz
theorem Bb2 {W:List Int} {M ms:B5} (hM:SM M) (hs:SM ms):SM (scV W M ms) :=
 Bn (n:=W.length) (Inv:=fun _ (s:B5)=>SM s) (fun i s s' _ h h2=>by
  cases h2
  exact SM.set h (hM i)) W.length 0 ms _ (by omega) hs (Jn (B8 (scE W M) 0 W.length ms))
theorem Bb3 {bl:List (TCT A2)} {c:TCT D3} {t st w fl:Int} {n:Nat} {s:S2} {r:B5×Kns} (h:seF bl c t st w fl n s=.inl r) (hs:SM s.1):SM r.1:=by
 unfold seF at h
 cases he:(seS bl c w fl n s).2.2.1 != 0 with
 | true=>rw [he] at h;cases h
 | false =>
  rw [he] at h
  cases h
  exact Bb2 (A3l (bne_eq_false_iff_eq.1 he)) hs
theorem B6n {n d l:Int} (hd:1≤d) (h1 : -(l*d)≤n) (h2:n≤l*d) : -l≤DW n d∧DW n d≤l:=by
 unfold DW
 have e1:(-l)*(2*d) = -(2*(l*d)):=by grind
 have e2:(l+1)*(2*d)=2*(l*d)+2*d:=by grind
 refine ⟨Int.le_ediv_of_mul_le (by omega) (by omega),?_⟩
 have:(2*n+d) / (2*d)<l+1:=Int.ediv_lt_of_lt_mul (by omega) (by omega)
 omega
theorem B6o {x y d:Int} (h:(x*x+y*y)*4096<(d+1)*(d+1)) (hd:0≤d) : -d≤64*x∧64*x≤d:=by
 have hy:0≤y*y:=I4 y
 constructor
 ·by_cases k : -d≤64*x
  ·exact k
  ·have a:d+1 ≤ -(64*x):=by omega
   have b:=Int.mul_le_mul a a (by omega) (by omega)
   have e : -(64*x) * -(64*x)=(x*x)*4096:=by grind
   rw [e] at b
   omega
 ·by_cases k:64*x≤d
  ·exact k
  ·have a:d+1≤64*x:=by omega
   have b:=Int.mul_le_mul a a (by omega) (by omega)
   have e:64*x*(64*x)=(x*x)*4096:=by grind
   rw [e] at b
   omega
theorem B6p {x d l:Int} (hd:1≤d) (hl:0≤l) (h : -d≤64*x∧64*x≤d) : -l≤ToX x 0 d l∧ToX x 0 d l≤l:=by
 unfold ToX
 have e:64*l*(x-0)=l*(64*x):=by grind
 have a:=Int.mul_le_mul_of_nonneg_left h.1 hl
 have b:=Int.mul_le_mul_of_nonneg_left h.2 hl
 rw [Int.mul_neg] at a
 rw [e,Int.zero_add]
 exact B6n hd a b
theorem Atv {x y l:Int} (hf:fpt x y=true) (hne:(x==0&&(y==0&&true))=false) (hl:1≤l∧l≤2097152):(TwR x y 0 0 l).2=0∧(-2097152≤(TwR x y 0 0 l).1.1∧(TwR x y 0 0 l).1.1≤2097152)∧(-2097152≤(TwR x y 0 0 l).1.2∧(TwR x y 0 0 l).1.2≤2097152):=by
 have h0:fpt 0 0=true:=by decide
 rw [Bool.and_true] at hne
 have hne2:¬ (x=0∧y=0):=by
  intro hh;rw [hh.1,hh.2] at hne;cases hne
 have hd:=Awo hf h0 hne2
 have hs:=Ajq hf h0
 obtain ⟨r1,r2,r3⟩:=J6 (sq x y 0 0*4096) (by omega)
 have hdd:dTo x y 0 0=rt (sq x y 0 0*4096):=rfl
 rw [← hdd] at r1 r2 r3
 have hsq:sq x y 0 0=x*x+y*y:=by unfold sq;grind
 rw [hsq] at r3
 have a:=B6o r3 r1
 have b:=B6o (x:=y) (y:=x) (d:=dTo x y 0 0) (by rw [Int.add_comm (y*y)];exact r3) r1
 have c1:=B6p hd.1 (show 0≤l by omega) a
 have c2:=B6p hd.1 (show 0≤l by omega) b
 have ho:Bu l 0 4194304=false:=by
  unfold Bu
  rw [decide_eq_false (show ¬ l<0 by omega),decide_eq_false (show ¬ 4194304<l by omega)];rfl
 have hfp:fpt (ToX x 0 (dTo x y 0 0) l) (ToX y 0 (dTo x y 0 0) l)=true:=by
  unfold fpt
  exact decide_eq_true (by omega)
 have e:TwR x y 0 0 l=((ToX x 0 (dTo x y 0 0) l,ToX y 0 (dTo x y 0 0) l),0):=by
  unfold TwR
  rw [hf,h0,ho,hne,hfp];rfl
 rw [e]
 exact ⟨rfl,⟨by show -2097152≤ToX x 0 _ l;omega,by show ToX x 0 _ l≤2097152;omega⟩,⟨by show -2097152≤ToX y 0 _ l;omega,by show ToX y 0 _ l≤2097152;omega⟩⟩
end St
end V
end Go.Proofs.YtcfanlgpkefogaaGreat
namespace Go.Proofs.YtcfanlgpkefogaaGreat
open Go.RowKit
namespace V
namespace St
def bwT {β:Type} (n:Int) (w:TCT cBw) (bad go:Tree β):Tree β:=bif decide (w.1<0) then bad else bif decide (w.1≥n) then bad else bif Hy w.2.1.1 w.2.1.2.1 != 0 then bad else bif w.2.1.1==0&&(w.2.1.2.1==0&&true) then bad else bif decide (w.2.2.1<1) then bad else bif decide (w.2.2.1>2097152) then bad else bif decide (w.2.2.2.1<0) then bad else bif decide (w.2.2.2.1>4) then bad else go
def bwB (n:Int) (w:TCT cBw):Bool:=decide (w.1<0)||(decide (w.1≥n)||(!fpt w.2.1.1 w.2.1.2.1||((w.2.1.1==0&&(w.2.1.2.1==0&&true))||(decide (w.2.2.1<1)||(decide (w.2.2.1>2097152)||(decide (w.2.2.2.1<0)||decide (w.2.2.2.1>4)))))))
theorem Bb4 {β:Type} {n:Int} {w:TCT cBw} {bad go:Tree β}:bwT n w bad go=bif bwB n w then bad else go:=by
 unfold bwT bwB
 rw [A5j]
 cases decide (w.1<0) <;> cases decide (w.1≥n) <;> cases fpt w.2.1.1 w.2.1.2.1 <;> cases w.2.1.1==0&&(w.2.1.2.1==0&&true) <;> cases decide (w.2.2.1<1) <;> cases decide (w.2.2.1>2097152) <;> cases decide (w.2.2.2.1<0) <;> cases decide (w.2.2.2.1>4) <;> rfl
structure BwOk (n:Int) (w:TCT cBw):Prop where
 b:0≤w.1∧w.1<n
 f:fpt w.2.1.1 w.2.1.2.1=true
 z:(w.2.1.1==0&&(w.2.1.2.1==0&&true))=false
 p:1≤w.2.2.1∧w.2.2.1≤2097152
 k:0≤w.2.2.2.1∧w.2.2.2.1≤4
theorem Atw {n:Int} {w:TCT cBw} (h:bwB n w=false):BwOk n w:=by
 unfold bwB at h
 rw [Bool.or_eq_false_iff,Bool.or_eq_false_iff,Bool.or_eq_false_iff,Bool.or_eq_false_iff,Bool.or_eq_false_iff,Bool.or_eq_false_iff,Bool.or_eq_false_iff] at h
 obtain ⟨h1,h2,h3,h4,h5,h6,h7,h8⟩:=h
 have a1:=of_decide_eq_false h1
 have a2:=of_decide_eq_false h2
 have a5:=of_decide_eq_false h5
 have a6:=of_decide_eq_false h6
 have a7:=of_decide_eq_false h7
 have a8:=of_decide_eq_false h8
 exact ⟨⟨Int.not_lt.1 a1,Int.not_le.1 a2⟩,by simpa using h3,h4,⟨Int.not_lt.1 a5,Int.not_lt.1 a6⟩,⟨Int.not_lt.1 a7,Int.not_lt.1 a8⟩⟩
def twP (w:TCT cBw):TCT cPt:=((TwR w.2.1.1 w.2.1.2.1 0 0 w.2.2.1).1.1,(TwR w.2.1.1 w.2.1.2.1 0 0 w.2.2.1).1.2,())
def twE (w:TCT cBw):Int:=(TwR w.2.1.1 w.2.1.2.1 0 0 w.2.2.1).2
def K1 (ms:B5) (b:Int) (v:TCT cPt):B5:=By ms (Int.toNat b) ((A8 ms (Int.toNat b)).1,(v.1,v.2.1,()),(A8 ms (Int.toNat b)).2.2.1,())
def mX (ms:B5) (b d:Int):B5:=By ms (Int.toNat b) ((A8 ms (Int.toNat b)).1,(W64 ((A8 ms (Int.toNat b)).2.1.1+d),(A8 ms (Int.toNat b)).2.1.2.1,()),(A8 ms (Int.toNat b)).2.2.1,())
def mY (ms:B5) (b d:Int):B5:=By ms (Int.toNat b) ((A8 ms (Int.toNat b)).1,((A8 ms (Int.toNat b)).2.1.1,W64 ((A8 ms (Int.toNat b)).2.1.2.1+d),()),(A8 ms (Int.toNat b)).2.2.1,())
def fwD (m k:Int):Int:=W64 (Int.tdiv (W64 (m*Vb k)) 1000)
def chB {β:Type} (ms:B5) (b:Int) (k:Tree β):Tree β:=bif decide (Int.toNat b<ms.length) then k else .fail
theorem Oy {β:Type} {ms:B5} {b:Int} {k:Tree β} {n:Nat} (h:0≤b∧b<(n:Int)) (hl:ms.length=n):chB ms b k=k:=by
 unfold chB
 rw [decide_eq_true (show Int.toNat b<ms.length by omega)];rfl
theorem Aek {ms:B5} {b d:Int}:(mX ms b d).length=ms.length:=C7 _ _ _
theorem Bb5 {ms:B5} {b d:Int}:(mY ms b d).length=ms.length:=C7 _ _ _
theorem A9s {ms:B5} {b:Int} {v:TCT cPt}:(K1 ms b v).length=ms.length:=C7 _ _ _
def A9t (ms:B5) (os:List Bool) (b fl:Int) (ks:Kns):TkR:=((ms,os,b,fl,0,()),ks,0,())
def skM (ms:B5) (w:TCT cBw):B5:=mY (mX ms w.1 (fwD (twP w).1 w.2.2.2.1)) w.1 (fwD (twP w).2.1 w.2.2.2.1)
def A9u (ms:B5) (b:Int):Bool:=A2g (A8 ms (Int.toNat b)).2.1.1||A2g (A8 ms (Int.toNat b)).2.1.2.1
def skF (os:List Bool) (w:TCT cBw):(B5×Kns)⊕Int→TkR
 | .inr e=>I3 e
 | .inl (ms,ks)=>bif decide ((ks.length:Int)>0) then bif A9u (skM ms w) w.1 then I3 4 else A9t (skM ms w) os w.1 0 ks else A9t ms os w.1 0 ks
def skG (g:TCT cGr) (s:TCT cSt) (w:TCT cBw):TkR:=bif w.2.2.2.1==4 then A9t (K1 (msT s) w.1 (twP w)) (osT s) w.1 8 [] else skF (osT s) w (seF (A3 g) g.2.2.1 0 0 w.1 0 (A3 g).length (K1 (msT s) w.1 (twP w),osT s,[]))
def skV (g:TCT cGr) (s:TCT cSt) (w:TCT cBw):TkR:=bif Db g s != 0 then I3 (Db g s) else bif bwB ((A3 g).length:Int) w then I3 2 else bif !C2 s||B7 (osT s) (Int.toNat w.1) (B9 .b) then I3 10 else skG g s w
abbrev Alw:PureT:=Bz [cGr,cSt,cBw] [cSt,.sl cKn,cI] (fun x=>decide ((x.1.1.1.size:Int)≤Bo .i64)) (fun x=>Zh (skV x.1 x.2.1 x.2.2.1))
def gS (g:TCT cGr) (s:TCT cSt) (ms:B5) (b:Int):GB:=((g.1.1,g.1.2.1,g.1.2.2.1,g.1.2.2.2.1,g.1.2.2.2.2.1,g.1.2.2.2.2.2.1.1.1,g.1.2.2.2.2.2.1.1.2.1,g.1.2.2.2.2.2.1.2.1,g.1.2.2.2.2.2.2.1,g.1.2.2.2.2.2.2.2.1,g.1.2.2.2.2.2.2.2.2.1,g.2.1,g.2.2.1.1,g.2.2.1.2.1,Fe g.1,ms,([]++s.2.1),b,0,0,0,((),(),()),()),([],()),())
def lfT (r:TkR):TTR:=.leaf r
def B6q (os:List Bool) (w:TCT cBw) (ks:Kns) (ms:B5):TTR:=chB ms w.1 (bif A2g (A8 ms (Int.toNat w.1)).2.1.1 then lfT (I3 4) else chB ms w.1 (bif A2g (A8 ms (Int.toNat w.1)).2.1.2.1 then lfT (I3 4) else lfT (A9t ms os w.1 0 ks)))
def Atx (os:List Bool) (w:TCT cBw) (ms:B5) (ks:Kns):TTR:=bif decide ((ks.length:Int)>0) then chB ms w.1 (chB ms w.1 (chB (mX ms w.1 (fwD (twP w).1 w.2.2.2.1)) w.1 (chB (mX ms w.1 (fwD (twP w).1 w.2.2.2.1)) w.1 (B6q os w ks (skM ms w))))) else lfT (A9t ms os w.1 0 ks)
def Aty (Y:YK) (g:TCT cGr) (s:TCT cSt) (w:TCT cBw):TTR:=bif w.2.2.2.1==4 then
  bif twE w != 0 then bif twE w != 0 then lfT (I3 (twE w)) else lfT (A9t (msT s) (osT s) w.1 8 []) else inN ([]++s.1:B5).length w.1 (chB ([]++s.1) w.1 (lfT (A9t (K1 ([]++s.1) w.1 (twP w)) ([]++s.2.1) w.1 8 [])))
 else bif twE w != 0 then bif twE w != 0 then lfT (I3 (twE w)) else lfT (A9t (msT s) (osT s) w.1 0 []) else inN ([]++s.1:B5).length w.1 (chB ([]++s.1) w.1 (thY (Y (gS g s (K1 ([]++s.1) w.1 (twP w)) w.1)) zM (fun e=>bif e != 0 then lfT (I3 e) else .fail) fun r=>Atx ([]++s.2.1) w r.1 r.2))
def B1x (Y:YK) (g:TCT cGr) (s:TCT cSt) (w:TCT cBw):TTR:=szT g.1 (bif Db g s != 0 then lfT (I3 (Db g s)) else bwT ((A3 g).length:Int) w (lfT (I3 2)) (bif !C2 s then lfT (I3 10) else inN (osT s).length w.1 (bif B7 (osT s) (Int.toNat w.1) (B9 .b) then lfT (I3 10) else szT g.1 (neT (msT s) (acT (msT s) 48 (neT (osT s) (acT (osT s) 1 (Aty Y g s w))))))))
theorem B1y (Y:YK) (x:TCTs [cGr,cSt,cBw]):E1 (Bgk Y) 8 (.fn 11) (Eg [cGr,cSt,cBw] x) Ck 0 (If Tryz.prog [cSt,.sl cKn,cI])=B1x Y x.1 x.2.1 x.2.2.1:=by kernel_rfl
theorem B1z:CtxOk (Bgk Rj):=Gn Aw puSk (fns_cons is_sStrike (fns_cons is_sStrike2 (fns_cons is_newGame (fns_cons is_sTry (fns_cons is_sTry1 (fns_cons is_must (fns_cons is_clMot (fns_cons is_clBool A1)))))))) K7 (fun p hp=>by
 rw [List.mem_singleton] at hp;subst hp;exact ⟨is_gsettle.plain,by rw [Alv,A5w];exact B18⟩)
end St
end V
end Go.Proofs.YtcfanlgpkefogaaGreat
namespace Go.Proofs.YtcfanlgpkefogaaGreat
open Go.RowKit
namespace V
namespace St
theorem Ail {bl:List (TCT A2)} {c:TCT D3} {t st w fl:Int} {n:Nat} {s:S2} {r:B5×Kns} (h:seF bl c t st w fl n s=.inl r):r.1.length=s.1.length:=by
 unfold seF at h
 cases he:(seS bl c w fl n s).2.2.1 != 0 with
 | true=>rw [he] at h;cases h
 | false =>
  rw [he] at h
  cases h
  exact Ai3
theorem B20 {g:TCT cGr} {s:TCT cSt} {ms:B5} {b:Int} (hs:(g.1.1.size:Int)≤Bo .i64) (h:StaOk g s) (hm:ms.length=(A3 g).length):Rj (gS g s ms b)=some (seF (A3 g) g.2.2.1 0 0 b 0 (A3 g).length (ms,osT s,[])):=by
 unfold Rj
 rw [show Ov (gS g s ms b)=true by
  unfold Ov
  simp only [Bool.and_eq_true,decide_eq_true_eq]
  refine ⟨Ej.2 ⟨hs,hm,?_,h.n8⟩,by show (0:Nat)≤900000;omega⟩
  show ([]++s.2.1:List Bool).length=(A3 g).length
  rw [List.nil_append];exact h.o]
 rfl
theorem Atz {os:List Bool} {w:TCT cBw} {ms:B5} {ks:Kns} {n:Nat} (hb:0≤w.1∧w.1<(n:Int)) (hm:ms.length=n):(Atx os w ms ks).sat (fun y=>y=Zh (skF os w (.inl (ms,ks)))):=by
 unfold Atx skF
 simp only
 cases decide ((ks.length:Int)>0) with
 | false=>exact rfl
 | true =>
  simp only [cond_true]
  rw [Oy hb hm,Oy hb hm,Oy hb (Aek.trans hm),Oy hb (Aek.trans hm)]
  unfold B6q
  have hl:(skM ms w).length=n:=by unfold skM;rw [Bb5,Aek];exact hm
  rw [Oy hb hl,Oy hb hl]
  unfold A9u
  cases A2g (A8 (skM ms w) (Int.toNat w.1)).2.1.1 with
  | true=>exact rfl
  | false=>cases A2g (A8 (skM ms w) (Int.toNat w.1)).2.1.2.1 <;> exact rfl
theorem Au0 {g:TCT cGr} {s:TCT cSt} {w:TCT cBw} (hs:(g.1.1.size:Int)≤Bo .i64) (h:StaOk g s) (hb:BwOk ((A3 g).length:Int) w):(Aty Rj g s w).sat (fun y=>y=Zh (skG g s w)):=by
 have tw:=Atv hb.f hb.z hb.p
 have he:(twE w != 0)=false:=bne_eq_false_iff_eq.2 tw.1
 unfold Aty skG
 rw [he]
 simp only [cond_false]
 have hms:([]++s.1:B5).length=(A3 g).length:=by rw [List.nil_append];exact h.m
 have hin:0≤w.1∧w.1<(([]++s.1:B5).length:Int):=⟨hb.b.1,by rw [hms];exact hb.b.2⟩
 cases w.2.2.2.1==4 with
 | true=>simp only [cond_true];rw [E2 hin,Oy hb.b hms];exact rfl
 | false =>
  simp only [cond_false]
  rw [E2 hin,Oy hb.b hms]
  have hy:=B20 (b:=w.1) hs h (A9s (b:=w.1) (v:=twP w).trans hms)
  have e:K1 ([]++s.1) w.1 (twP w)=K1 (msT s) w.1 (twP w):=rfl
  rw [e] at hy ⊢
  cases hf:seF (A3 g) g.2.2.1 0 0 w.1 0 (A3 g).length (K1 (msT s) w.1 (twP w),osT s,[]) with
  | inr x=>rw [hf] at hy;rw [Qs hy,show (x != 0)=true from bne_iff_ne.2 (A5z hf)];exact rfl
  | inl r =>
   rw [hf] at hy
   rw [Qr hy]
   obtain ⟨ms,ks⟩:=r
   have hl:=Ail hf
   exact Atz hb.b (hl.trans (A9s.trans h.m))
theorem B21 {g:TCT cGr} {s:TCT cSt} {w:TCT cBw} (hs:(g.1.1.size:Int)≤Bo .i64):(B1x Rj g s w).sat (fun y=>y=Zh (skV g s w)):=by
 unfold B1x skV
 rw [Dh hs,Dh hs,Bb4]
 cases h1:Db g s != 0 with
 | true=>exact rfl
 | false =>
  have h:=Zj (bne_eq_false_iff_eq.1 h1)
  have hn1:=h.n1
  have hn8:=h.n8
  have hm:=h.m
  have ho:=h.o
  simp only [cond_false]
  cases h2:bwB ((A3 g).length:Int) w with
  | true=>exact rfl
  | false =>
   have hb:=Atw h2
   simp only [cond_false]
   cases C2 s with
   | false=>exact rfl
   | true =>
    simp only [Bool.not_true,cond_false,Bool.false_or]
    rw [E2 ⟨hb.b.1,by rw [ho];exact hb.b.2⟩]
    cases B7 (osT s) (Int.toNat w.1) (B9 .b) with
    | true=>exact rfl
    | false =>
     simp only [cond_false]
     rw [Ow (by omega),Ox (by omega) (by decide),Ow (by omega),Ox (by omega) (by decide)]
     exact Au0 hs h hb
theorem A3m:A5 Tryz.prog 11 Alw:=C5 B1z 8 (fun x=>B1x Rj x.1 x.2.1 x.2.2.1) (B1y Rj) fun _ hok _=>B21 (of_decide_eq_true hok)
end St
end V
end Go.Proofs.YtcfanlgpkefogaaGreat
