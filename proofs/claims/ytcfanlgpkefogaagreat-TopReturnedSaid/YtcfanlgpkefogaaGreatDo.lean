import Derived.Test.YtcfanlgpkefogaaGreatCq
namespace Go.Proofs.YtcfanlgpkefogaaGreat
open Go.RowKit
namespace V
namespace St
theorem is_sStrike2:FnIs Tryz.prog (48,Tryz.f48):=⟨Tryz.func48,by kernel_rfl,by kernel_rfl⟩
theorem is_sFollow:FnIs Tryz.prog (51,Tryz.f51):=⟨Tryz.func51,by kernel_rfl,by kernel_rfl⟩
theorem is_sStrong:FnIs Tryz.prog (52,Tryz.f52):=⟨Tryz.func52,by kernel_rfl,by kernel_rfl⟩
def Vl (k:Int):Int:=bif 1==k then 150 else bif 2==k then 500 else bif 3==k then 900 else 0
abbrev B7k:PureT:=Bv [cI] [cI] (fun _=>true) (fun x=>(Vl x.1,()))
def Aur (k:Int):Tree (TCTs [cI]):=bif 1==k then .leaf (150,()) else bif 2==k then .leaf (500,()) else bif 3==k then .leaf (900,()) else .leaf (0,())
theorem Aus (k:Int):(Aur k).sat (fun y=>y=(Vl k,())):=by
 unfold Aur Vl
 cases (1:Int)==k <;> cases (2:Int)==k <;> cases (3:Int)==k <;> exact rfl
theorem Bh0:A7 Tryz.prog 51 B7k:=C0 (Uw (u:=4) Aw puOk_nil (fns_cons is_sFollow A0)) 6 (fun x=>Aur x.1) (fun x=>by kernel_rfl) fun x _ _=>Aus x.1
def A2z (k:Int):Bool:=decide (max k (W64 (0-k))>16777216)
abbrev B7l:PureT:=Bv [cI] [.b] (fun _=>true) (fun x=>(A2z x.1,()))
theorem Bh1:A7 Tryz.prog 52 B7l:=C0 (B5 Aw puOk_nil (fns_cons is_sStrong A0)) 6 (fun x=>.leaf (A2z x.1,())) (fun x=>by kernel_rfl) fun _ _ _=>rfl
abbrev cBw:TC:=.st [cI,cPt,cI,cI]
abbrev plSk:List (Nat×PureT):=(51,B7k)::(52,B7l)::(23,A39)::(43,J9)::(25,A5r)::plGm
theorem puSk:Db Tryz.prog plSk:=puOk_cons is_sFollow.plain Bh0 (puOk_cons is_sStrong.plain Bh1 (puOk_cons is_Towards.plain Am0 (puOk_cons is_tChk.plain K0 (puOk_cons is_Posts.plain Ai6 puGm))))
noncomputable def Bli:List (Nat×Func):=[(11,Tryz.f11),(48,Tryz.f48),(45,Tryz.f45),(47,Tryz.f47),(97,Tryz.f97),(49,Tryz.f49),(95,Tryz.f95),(96,Tryz.f96)]
noncomputable def Bh2 (Y:YK):Ctx:=W9 Tryz.prog plSk Bli [] [(50,Amo 46 Y)]
theorem Kl {α:Type} {d:α} (l:List α) (i j:Nat) (x:α):Bc (Bu l i x) j d=x∨Bc (Bu l i x) j d=Bc l j d:=by
 rw [C4,F7,F7,List.getD_eq_getElem?_getD,List.getD_eq_getElem?_getD,List.getElem?_set]
 by_cases h:i=j
 ·subst h
  rw [if_pos rfl]
  by_cases h2:i<l.length
  ·rw [if_pos h2];exact .inl rfl
  ·rw [if_neg h2,List.getElem?_eq_none (Nat.le_of_not_lt h2)];exact .inr rfl
 ·rw [if_neg h];exact .inr rfl
def smB (m:TCT Bd):Bool:=Bo m.2.1.1 m.2.1.2.1
def SM (l:Ax):Prop:=∀ j:Nat,smB (A8 l j)=true
theorem SM.set {l:Ax} {i:Nat} {x:TCT Bd} (h:SM l) (hx:smB x=true):SM (Bu l i x):=fun j=>by
 unfold A8
 rcases Kl (d:=B7 Bd) l i j x with e | e
 ·rw [e];exact hx
 ·rw [e];exact h j
theorem Bbg {a b:Bm} {k:Qu} (h:(I4 a b k).2.2.1=0):smB (I4 a b k).1=true∧smB (I4 a b k).2.1=true:=by
 unfold I4 at h ⊢
 cases h1:k.2.1 != 0 with
 | true=>rw [h1] at h;exact absurd h (bne_iff_ne.1 h1)
 | false =>
  rw [h1] at h
  simp only [cond_false] at h ⊢
  cases h2:Bo (W64 (a.mx-k.1.1)) (W64 (a.my-k.1.2.1)) with
  | false=>rw [h2] at h;cases h
  | true =>
   rw [h2] at h
   simp only [Bool.not_true,cond_false] at h ⊢
   cases h3:Bo (W64 (b.mx+k.1.1)) (W64 (b.my+k.1.2.1)) with
   | false=>rw [h3] at h;cases h
   | true=>exact ⟨h2,h3⟩
theorem Aa9 {l:List (TCT A3)} {re dr:Int} {i k:Nat} {s s':SS} (h:Fv l re dr i k s=some s') (hs:SM s.1):SM s'.1:=by
 unfold Fv at h
 cases h1:(Cd (bAt l s.1 i) (bAt l s.1 k) re dr).2.2.1==0 with
 | true =>
  rw [h1] at h
  simp only [cond_true,Option.some.injEq] at h
  subst h
  have b:=Bbg (a:=bAt l s.1 i) (b:=bAt l s.1 k) (k:=Wy (bAt l s.1 i) (bAt l s.1 k) re dr) (beq_iff_eq.1 h1)
  exact SM.set (SM.set hs b.1) b.2
 | false =>
  rw [h1,cond_false] at h
  cases h2:(Cd (bAt l s.1 i) (bAt l s.1 k) re dr).2.2.1==4 with
  | true=>rw [h2] at h;simp at h
  | false=>rw [h2] at h;simp only [cond_false,Option.some.injEq] at h;subst h;exact hs
theorem Aex {l:List (TCT A3)} {re dr:Int} {i:Nat}:∀ (f k:Nat) (s s':SS),V.inR l re dr i f k s=some s'→SM s.1→SM s'.1
 | 0,k,s,s',h,hs=>by rw [V.inR,Option.some.injEq] at h;subst h;exact hs
 | f+1,k,s,s',h,hs=>by
  rw [V.inR] at h
  cases h1:Fv l re dr i k s with
  | none=>rw [h1] at h;simp at h
  | some s1 =>
   rw [h1,Option.bind_some] at h
   exact Aex f (k+1) s1 s' h (Aa9 h1 hs)
theorem Ajd {l:List (TCT A3)} {re dr:Int}:∀ (f i:Nat) (s s':SS),Iu l re dr f i s=some s'→SM s.1→SM s'.1
 | 0,i,s,s',h,hs=>by rw [Mc,Option.some.injEq] at h;subst h;exact hs
 | f+1,i,s,s',h,hs=>by
  rw [K6] at h
  cases h1:V.inR l re dr i (l.length-(i+1)) (i+1) s with
  | none=>rw [h1] at h;simp at h
  | some s1 =>
   rw [h1,Option.bind_some] at h
   exact Ajd f (i+1) s1 s' h (Aex _ _ _ _ h1 hs)
theorem Aey:∀ (l:List (TCT A3)) (s:Ax),l.length=s.length→(l.zip s).all Rq=true→SM s
 | [],[],_,_=>fun _=>rfl
 | [],_::_,h,_=>by simp at h
 | _::_,[],h,_=>by simp at h
 | b::l,m::s,h,k=>by
  rw [List.zip_cons_cons,List.all_cons,Bool.and_eq_true] at k
  have h':l.length=s.length:=by simpa using h
  have ih:=Aey l s h' k.2
  intro j
  cases j with
  | zero =>
   have:=k.1
   unfold Rq Bm.ok Rv at this
   simp only [Bool.and_eq_true] at this
   exact this.2.2.1
  | succ j=>exact ih j
theorem A3w {l:List (TCT A3)} {s:Ax} {re dr:Int} (h:(Cn l s re dr).2.2.1=0):SM (Cn l s re dr).1:=by
 unfold Cn at h ⊢
 cases h1:N4 l s != 0 with
 | true=>rw [h1,cond_true] at h;exact absurd h (bne_iff_ne.1 h1)
 | false =>
  rw [h1,cond_false] at h
  simp only [cond_false]
  cases h2:!Ic re dr with
  | true=>rw [h2] at h;cases h
  | false =>
   rw [h2,cond_false] at h
   simp only [cond_false]
   cases h3:Iu l re dr l.length 0 (s,[]) with
   | none=>rw [h3] at h;cases h
   | some s' =>
    obtain ⟨_,k2,k3⟩:=Afd (bne_eq_false_iff_eq.1 h1)
    have hz:SM s:=Aey l s k2 k3
    exact Ajd _ _ _ _ h3 hz
theorem Bbh {W:List Int} {M ms:Ax} (hM:SM M) (hs:SM ms):SM (scV W M ms) :=
 Bf (n:=W.length) (Inv:=fun _ (s:Ax)=>SM s) (fun i s s' _ h h2=>by
  cases h2
  exact SM.set h (hM i)) W.length 0 ms _ (by omega) hs (Jn (B6 (scE W M) 0 W.length ms))
theorem Bbi {bl:List (TCT A3)} {c:TCT Co} {t st w fl:Int} {n:Nat} {s:S2} {r:Ax×Kns} (h:seF bl c t st w fl n s=.inl r) (hs:SM s.1):SM r.1:=by
 unfold seF at h
 cases he:(seS bl c w fl n s).2.2.1 != 0 with
 | true=>rw [he] at h;cases h
 | false =>
  rw [he] at h
  cases h
  exact Bbh (A3w (bne_eq_false_iff_eq.1 he)) hs
theorem Bh3 {n d l:Int} (hd:1≤d) (h1 : -(l*d)≤n) (h2:n≤l*d) : -l≤DW n d∧DW n d≤l:=by
 unfold DW
 have e1:(-l)*(2*d) = -(2*(l*d)):=by grind
 have e2:(l+1)*(2*d)=2*(l*d)+2*d:=by grind
 refine ⟨Int.le_ediv_of_mul_le (by omega) (by omega),?_⟩
 have:(2*n+d) / (2*d)<l+1:=Int.ediv_lt_of_lt_mul (by omega) (by omega)
 omega
theorem B7m {x y d:Int} (h:(x*x+y*y)*4096<(d+1)*(d+1)) (hd:0≤d) : -d≤64*x∧64*x≤d:=by
 have hy:0≤y*y:=I2 y
 constructor
 ·by_cases k : -d≤64*x
  ·exact k
  ·have a:d+1 ≤ -(64*x):=by omega
   have b:=Int.mul_le_mul a a (by omega) (by omega)
   have e : -(64*x) * -(64*x)=(x*x)*4096:=by grind
   rw [e] at b
   omega
 ·by_cases k:64*x≤d
  ·exact k
  ·have a:d+1≤64*x:=by omega
   have b:=Int.mul_le_mul a a (by omega) (by omega)
   have e:64*x*(64*x)=(x*x)*4096:=by grind
   rw [e] at b
   omega
theorem B7n {x d l:Int} (hd:1≤d) (hl:0≤l) (h : -d≤64*x∧64*x≤d) : -l≤ToX x 0 d l∧ToX x 0 d l≤l:=by
 unfold ToX
 have e:64*l*(x-0)=l*(64*x):=by grind
 have a:=Int.mul_le_mul_of_nonneg_left h.1 hl
 have b:=Int.mul_le_mul_of_nonneg_left h.2 hl
 rw [Int.mul_neg] at a
 rw [e,Int.zero_add]
 exact Bh3 hd a b
theorem Aut {x y l:Int} (hf:fpt x y=true) (hne:(x==0&&(y==0&&true))=false) (hl:1≤l∧l≤2097152):(TwR x y 0 0 l).2=0∧(-2097152≤(TwR x y 0 0 l).1.1∧(TwR x y 0 0 l).1.1≤2097152)∧(-2097152≤(TwR x y 0 0 l).1.2∧(TwR x y 0 0 l).1.2≤2097152):=by
 have h0:fpt 0 0=true:=by decide
 rw [Bool.and_true] at hne
 have hne2:¬ (x=0∧y=0):=by
  intro hh;rw [hh.1,hh.2] at hne;cases hne
 have hd:=Awo hf h0 hne2
 have hs:=Akd hf h0
 obtain ⟨r1,r2,r3⟩:=J7 (sq x y 0 0*4096) (by omega)
 have hdd:dTo x y 0 0=rt (sq x y 0 0*4096):=rfl
 rw [← hdd] at r1 r2 r3
 have hsq:sq x y 0 0=x*x+y*y:=by unfold sq;grind
 rw [hsq] at r3
 have a:=B7m r3 r1
 have b:=B7m (x:=y) (y:=x) (d:=dTo x y 0 0) (by rw [Int.add_comm (y*y)];exact r3) r1
 have c1:=B7n hd.1 (show 0≤l by omega) a
 have c2:=B7n hd.1 (show 0≤l by omega) b
 have ho:Bs l 0 4194304=false:=by
  unfold Bs
  rw [decide_eq_false (show ¬ l<0 by omega),decide_eq_false (show ¬ 4194304<l by omega)];rfl
 have hfp:fpt (ToX x 0 (dTo x y 0 0) l) (ToX y 0 (dTo x y 0 0) l)=true:=by
  unfold fpt
  exact decide_eq_true (by omega)
 have e:TwR x y 0 0 l=((ToX x 0 (dTo x y 0 0) l,ToX y 0 (dTo x y 0 0) l),0):=by
  unfold TwR
  rw [hf,h0,ho,hne,hfp];rfl
 rw [e]
 exact ⟨rfl,⟨by show -2097152≤ToX x 0 _ l;omega,by show ToX x 0 _ l≤2097152;omega⟩,⟨by show -2097152≤ToX y 0 _ l;omega,by show ToX y 0 _ l≤2097152;omega⟩⟩
end St
end V
end Go.Proofs.YtcfanlgpkefogaaGreat
namespace Go.Proofs.YtcfanlgpkefogaaGreat
open Go.RowKit
namespace V
namespace St
def bwT {β:Type} (n:Int) (w:TCT cBw) (bad go:Tree β):Tree β:=bif decide (w.1<0) then bad else bif decide (w.1≥n) then bad else bif Gu w.2.1.1 w.2.1.2.1 != 0 then bad else bif w.2.1.1==0&&(w.2.1.2.1==0&&true) then bad else bif decide (w.2.2.1<1) then bad else bif decide (w.2.2.1>2097152) then bad else bif decide (w.2.2.2.1<0) then bad else bif decide (w.2.2.2.1>4) then bad else go
def bwB (n:Int) (w:TCT cBw):Bool:=decide (w.1<0)||(decide (w.1≥n)||(!fpt w.2.1.1 w.2.1.2.1||((w.2.1.1==0&&(w.2.1.2.1==0&&true))||(decide (w.2.2.1<1)||(decide (w.2.2.1>2097152)||(decide (w.2.2.2.1<0)||decide (w.2.2.2.1>4)))))))
theorem Bbj {β:Type} {n:Int} {w:TCT cBw} {bad go:Tree β}:bwT n w bad go=bif bwB n w then bad else go:=by
 unfold bwT bwB
 rw [Mz]
 cases decide (w.1<0) <;> cases decide (w.1≥n) <;> cases fpt w.2.1.1 w.2.1.2.1 <;> cases w.2.1.1==0&&(w.2.1.2.1==0&&true) <;> cases decide (w.2.2.1<1) <;> cases decide (w.2.2.1>2097152) <;> cases decide (w.2.2.2.1<0) <;> cases decide (w.2.2.2.1>4) <;> rfl
structure BwOk (n:Int) (w:TCT cBw):Prop where
 b:0≤w.1∧w.1<n
 f:fpt w.2.1.1 w.2.1.2.1=true
 z:(w.2.1.1==0&&(w.2.1.2.1==0&&true))=false
 p:1≤w.2.2.1∧w.2.2.1≤2097152
 k:0≤w.2.2.2.1∧w.2.2.2.1≤4
theorem Aje {n:Int} {w:TCT cBw} (h:bwB n w=false):BwOk n w:=by
 unfold bwB at h
 rw [Bool.or_eq_false_iff,Bool.or_eq_false_iff,Bool.or_eq_false_iff,Bool.or_eq_false_iff,Bool.or_eq_false_iff,Bool.or_eq_false_iff,Bool.or_eq_false_iff] at h
 obtain ⟨h1,h2,h3,h4,h5,h6,h7,h8⟩:=h
 have a1:=of_decide_eq_false h1
 have a2:=of_decide_eq_false h2
 have a5:=of_decide_eq_false h5
 have a6:=of_decide_eq_false h6
 have a7:=of_decide_eq_false h7
 have a8:=of_decide_eq_false h8
 exact ⟨⟨Int.not_lt.1 a1,Int.not_le.1 a2⟩,by simpa using h3,h4,⟨Int.not_lt.1 a5,Int.not_lt.1 a6⟩,⟨Int.not_lt.1 a7,Int.not_lt.1 a8⟩⟩
def twP (w:TCT cBw):TCT cPt:=((TwR w.2.1.1 w.2.1.2.1 0 0 w.2.2.1).1.1,(TwR w.2.1.1 w.2.1.2.1 0 0 w.2.2.1).1.2,())
def twE (w:TCT cBw):Int:=(TwR w.2.1.1 w.2.1.2.1 0 0 w.2.2.1).2
def Km (ms:Ax) (b:Int) (v:TCT cPt):Ax:=Bu ms (Int.toNat b) ((A8 ms (Int.toNat b)).1,(v.1,v.2.1,()),(A8 ms (Int.toNat b)).2.2.1,())
def mX (ms:Ax) (b d:Int):Ax:=Bu ms (Int.toNat b) ((A8 ms (Int.toNat b)).1,(W64 ((A8 ms (Int.toNat b)).2.1.1+d),(A8 ms (Int.toNat b)).2.1.2.1,()),(A8 ms (Int.toNat b)).2.2.1,())
def mY (ms:Ax) (b d:Int):Ax:=Bu ms (Int.toNat b) ((A8 ms (Int.toNat b)).1,((A8 ms (Int.toNat b)).2.1.1,W64 ((A8 ms (Int.toNat b)).2.1.2.1+d),()),(A8 ms (Int.toNat b)).2.2.1,())
def fwD (m k:Int):Int:=W64 (Int.tdiv (W64 (m*Vl k)) 1000)
def chB {β:Type} (ms:Ax) (b:Int) (k:Tree β):Tree β:=bif decide (Int.toNat b<ms.length) then k else .fail
theorem Om {β:Type} {ms:Ax} {b:Int} {k:Tree β} {n:Nat} (h:0≤b∧b<(n:Int)) (hl:ms.length=n):chB ms b k=k:=by
 unfold chB
 rw [decide_eq_true (show Int.toNat b<ms.length by omega)];rfl
theorem Aez {ms:Ax} {b d:Int}:(mX ms b d).length=ms.length:=Bw _ _ _
theorem Bbk {ms:Ax} {b d:Int}:(mY ms b d).length=ms.length:=Bw _ _ _
theorem Aaa {ms:Ax} {b:Int} {v:TCT cPt}:(Km ms b v).length=ms.length:=Bw _ _ _
def Aab (ms:Ax) (os:List Bool) (b fl:Int) (ks:Kns):TkR:=((ms,os,b,fl,0,()),ks,0,())
def skM (ms:Ax) (w:TCT cBw):Ax:=mY (mX ms w.1 (fwD (twP w).1 w.2.2.2.1)) w.1 (fwD (twP w).2.1 w.2.2.2.1)
def A6a (ms:Ax) (b:Int):Bool:=A2z (A8 ms (Int.toNat b)).2.1.1||A2z (A8 ms (Int.toNat b)).2.1.2.1
def skF (os:List Bool) (w:TCT cBw):(Ax×Kns)⊕Int→TkR
 | .inr e=>I1 e
 | .inl (ms,ks)=>bif decide ((ks.length:Int)>0) then bif A6a (skM ms w) w.1 then I1 4 else Aab (skM ms w) os w.1 0 ks else Aab ms os w.1 0 ks
def skG (g:TCT cGr) (s:TCT cSt) (w:TCT cBw):TkR:=bif w.2.2.2.1==4 then Aab (Km (msT s) w.1 (twP w)) (osT s) w.1 8 [] else skF (osT s) w (seF (A4 g) g.2.2.1 0 0 w.1 0 (A4 g).length (Km (msT s) w.1 (twP w),osT s,[]))
def skV (g:TCT cGr) (s:TCT cSt) (w:TCT cBw):TkR:=bif Fp g s != 0 then I1 (Fp g s) else bif bwB ((A4 g).length:Int) w then I1 2 else bif !Dh s||Bc (osT s) (Int.toNat w.1) (B7 .b) then I1 10 else skG g s w
abbrev Amp:PureT:=Bv [cGr,cSt,cBw] [cSt,.sl cKn,cI] (fun x=>decide ((x.1.1.1.size:Int)≤Bl .i64)) (fun x=>Zy (skV x.1 x.2.1 x.2.2.1))
def gS (g:TCT cGr) (s:TCT cSt) (ms:Ax) (b:Int):GB:=((g.1.1,g.1.2.1,g.1.2.2.1,g.1.2.2.2.1,g.1.2.2.2.2.1,g.1.2.2.2.2.2.1.1.1,g.1.2.2.2.2.2.1.1.2.1,g.1.2.2.2.2.2.1.2.1,g.1.2.2.2.2.2.2.1,g.1.2.2.2.2.2.2.2.1,g.1.2.2.2.2.2.2.2.2.1,g.2.1,g.2.2.1.1,g.2.2.1.2.1,Iq g.1,ms,([]++s.2.1),b,0,0,0,((),(),()),()),([],()),())
def lfT (r:TkR):TTR:=.leaf r
def B7o (os:List Bool) (w:TCT cBw) (ks:Kns) (ms:Ax):TTR:=chB ms w.1 (bif A2z (A8 ms (Int.toNat w.1)).2.1.1 then lfT (I1 4) else chB ms w.1 (bif A2z (A8 ms (Int.toNat w.1)).2.1.2.1 then lfT (I1 4) else lfT (Aab ms os w.1 0 ks)))
def Auu (os:List Bool) (w:TCT cBw) (ms:Ax) (ks:Kns):TTR:=bif decide ((ks.length:Int)>0) then chB ms w.1 (chB ms w.1 (chB (mX ms w.1 (fwD (twP w).1 w.2.2.2.1)) w.1 (chB (mX ms w.1 (fwD (twP w).1 w.2.2.2.1)) w.1 (B7o os w ks (skM ms w))))) else lfT (Aab ms os w.1 0 ks)
def Auv (Y:YK) (g:TCT cGr) (s:TCT cSt) (w:TCT cBw):TTR:=bif w.2.2.2.1==4 then
  bif twE w != 0 then bif twE w != 0 then lfT (I1 (twE w)) else lfT (Aab (msT s) (osT s) w.1 8 []) else inN ([]++s.1:Ax).length w.1 (chB ([]++s.1) w.1 (lfT (Aab (Km ([]++s.1) w.1 (twP w)) ([]++s.2.1) w.1 8 [])))
 else bif twE w != 0 then bif twE w != 0 then lfT (I1 (twE w)) else lfT (Aab (msT s) (osT s) w.1 0 []) else inN ([]++s.1:Ax).length w.1 (chB ([]++s.1) w.1 (thY (Y (gS g s (Km ([]++s.1) w.1 (twP w)) w.1)) zM (fun e=>bif e != 0 then lfT (I1 e) else .fail) fun r=>Auu ([]++s.2.1) w r.1 r.2))
def B2n (Y:YK) (g:TCT cGr) (s:TCT cSt) (w:TCT cBw):TTR:=szT g.1 (bif Fp g s != 0 then lfT (I1 (Fp g s)) else bwT ((A4 g).length:Int) w (lfT (I1 2)) (bif !Dh s then lfT (I1 10) else inN (osT s).length w.1 (bif Bc (osT s) (Int.toNat w.1) (B7 .b) then lfT (I1 10) else szT g.1 (neT (msT s) (acT (msT s) 48 (neT (osT s) (acT (osT s) 1 (Auv Y g s w))))))))
theorem B2o (Y:YK) (x:TCTs [cGr,cSt,cBw]):Dx (Bh2 Y) 8 (.fn 11) (E7 [cGr,cSt,cBw] x) Ce 0 (J3 Tryz.prog [cSt,.sl cKn,cI])=B2n Y x.1 x.2.1 x.2.2.1:=by kernel_rfl
theorem B2p:CtxOk (Bh2 Rm):=Hi Aw puSk (fns_cons is_sStrike (fns_cons is_sStrike2 (fns_cons is_newGame (fns_cons is_sTry (fns_cons is_sTry1 (fns_cons is_must (fns_cons is_clMot (fns_cons is_clBool A0)))))))) Ir (fun p hp=>by
 rw [List.mem_singleton] at hp;subst hp;exact ⟨is_gsettle.plain,by rw [Amo,A66];exact B23⟩)
end St
end V
end Go.Proofs.YtcfanlgpkefogaaGreat
namespace Go.Proofs.YtcfanlgpkefogaaGreat
open Go.RowKit
namespace V
namespace St
theorem A6b {bl:List (TCT A3)} {c:TCT Co} {t st w fl:Int} {n:Nat} {s:S2} {r:Ax×Kns} (h:seF bl c t st w fl n s=.inl r):r.1.length=s.1.length:=by
 unfold seF at h
 cases he:(seS bl c w fl n s).2.2.1 != 0 with
 | true=>rw [he] at h;cases h
 | false =>
  rw [he] at h
  cases h
  exact Aiy
theorem B2q {g:TCT cGr} {s:TCT cSt} {ms:Ax} {b:Int} (hs:(g.1.1.size:Int)≤Bl .i64) (h:StaOk g s) (hm:ms.length=(A4 g).length):Rm (gS g s ms b)=some (seF (A4 g) g.2.2.1 0 0 b 0 (A4 g).length (ms,osT s,[])):=by
 unfold Rm
 rw [show Qj (gS g s ms b)=true by
  unfold Qj
  simp only [Bool.and_eq_true,decide_eq_true_eq]
  refine ⟨F4.2 ⟨hs,hm,?_,h.n8⟩,by show (0:Nat)≤900000;omega⟩
  show ([]++s.2.1:List Bool).length=(A4 g).length
  rw [List.nil_append];exact h.o]
 rfl
theorem Auw {os:List Bool} {w:TCT cBw} {ms:Ax} {ks:Kns} {n:Nat} (hb:0≤w.1∧w.1<(n:Int)) (hm:ms.length=n):(Auu os w ms ks).sat (fun y=>y=Zy (skF os w (.inl (ms,ks)))):=by
 unfold Auu skF
 simp only
 cases decide ((ks.length:Int)>0) with
 | false=>exact rfl
 | true =>
  simp only [cond_true]
  rw [Om hb hm,Om hb hm,Om hb (Aez.trans hm),Om hb (Aez.trans hm)]
  unfold B7o
  have hl:(skM ms w).length=n:=by unfold skM;rw [Bbk,Aez];exact hm
  rw [Om hb hl,Om hb hl]
  unfold A6a
  cases A2z (A8 (skM ms w) (Int.toNat w.1)).2.1.1 with
  | true=>exact rfl
  | false=>cases A2z (A8 (skM ms w) (Int.toNat w.1)).2.1.2.1 <;> exact rfl
theorem Aux {g:TCT cGr} {s:TCT cSt} {w:TCT cBw} (hs:(g.1.1.size:Int)≤Bl .i64) (h:StaOk g s) (hb:BwOk ((A4 g).length:Int) w):(Auv Rm g s w).sat (fun y=>y=Zy (skG g s w)):=by
 have tw:=Aut hb.f hb.z hb.p
 have he:(twE w != 0)=false:=bne_eq_false_iff_eq.2 tw.1
 unfold Auv skG
 rw [he]
 simp only [cond_false]
 have hms:([]++s.1:Ax).length=(A4 g).length:=by rw [List.nil_append];exact h.m
 have hin:0≤w.1∧w.1<(([]++s.1:Ax).length:Int):=⟨hb.b.1,by rw [hms];exact hb.b.2⟩
 cases w.2.2.2.1==4 with
 | true=>simp only [cond_true];rw [Dd hin,Om hb.b hms];exact rfl
 | false =>
  simp only [cond_false]
  rw [Dd hin,Om hb.b hms]
  have hy:=B2q (b:=w.1) hs h (Aaa (b:=w.1) (v:=twP w).trans hms)
  have e:Km ([]++s.1) w.1 (twP w)=Km (msT s) w.1 (twP w):=rfl
  rw [e] at hy ⊢
  cases hf:seF (A4 g) g.2.2.1 0 0 w.1 0 (A4 g).length (Km (msT s) w.1 (twP w),osT s,[]) with
  | inr x=>rw [hf] at hy;rw [Wq hy,show (x != 0)=true from bne_iff_ne.2 (Zx hf)];exact rfl
  | inl r =>
   rw [hf] at hy
   rw [Wp hy]
   obtain ⟨ms,ks⟩:=r
   have hl:=A6b hf
   exact Auw hb.b (hl.trans (Aaa.trans h.m))
theorem B2r {g:TCT cGr} {s:TCT cSt} {w:TCT cBw} (hs:(g.1.1.size:Int)≤Bl .i64):(B2n Rm g s w).sat (fun y=>y=Zy (skV g s w)):=by
 unfold B2n skV
 rw [Dg hs,Dg hs,Bbj]
 cases h1:Fp g s != 0 with
 | true=>exact rfl
 | false =>
  have h:=A69 (bne_eq_false_iff_eq.1 h1)
  have hn1:=h.n1
  have hn8:=h.n8
  have hm:=h.m
  have ho:=h.o
  simp only [cond_false]
  cases h2:bwB ((A4 g).length:Int) w with
  | true=>exact rfl
  | false =>
   have hb:=Aje h2
   simp only [cond_false]
   cases Dh s with
   | false=>exact rfl
   | true =>
    simp only [Bool.not_true,cond_false,Bool.false_or]
    rw [Dd ⟨hb.b.1,by rw [ho];exact hb.b.2⟩]
    cases Bc (osT s) (Int.toNat w.1) (B7 .b) with
    | true=>exact rfl
    | false =>
     simp only [cond_false]
     rw [Vj (by omega),Vk (by omega) (by decide),Vj (by omega),Vk (by omega) (by decide)]
     exact Aux hs h hb
theorem A3x:A7 Tryz.prog 11 Amp:=C0 B2p 8 (fun x=>B2n Rm x.1 x.2.1 x.2.2.1) (B2o Rm) fun _ hok _=>B2r (of_decide_eq_true hok)
end St
end V
end Go.Proofs.YtcfanlgpkefogaaGreat
