import Derived.Test.YtcfanlgpkefogaaGreatCq
namespace Go.Proofs.YtcfanlgpkefogaaGreat
open Go.RowKit
namespace V
namespace St
theorem is_sStrike2:FnIs Tryz.prog (48,Tryz.f48):=⟨Tryz.func48,by kernel_rfl,by kernel_rfl⟩
theorem is_sFollow:FnIs Tryz.prog (51,Tryz.f51):=⟨Tryz.func51,by kernel_rfl,by kernel_rfl⟩
theorem is_sStrong:FnIs Tryz.prog (52,Tryz.f52):=⟨Tryz.func52,by kernel_rfl,by kernel_rfl⟩
def Bpo (k:Int):Int:=bif 1==k then 150 else bif 2==k then 500 else bif 3==k then 900 else 0
abbrev Cwd:PureT:=Bbc [cI] [cI] (fun _=>true) (fun x=>(Bpo x.1,()))
def Cl5 (k:Int):Tree (TCTs [cI]):=bif 1==k then .leaf (150,()) else bif 2==k then .leaf (500,()) else bif 3==k then .leaf (900,()) else .leaf (0,())
theorem Cl6 (k:Int):(Cl5 k).sat (fun y=>y=(Bpo k,())):=by
 unfold Cl5 Bpo
 cases (1:Int)==k <;> cases (2:Int)==k <;> cases (3:Int)==k <;> exact rfl
theorem D4v:Bai Tryz.prog 51 Cwd:=Bbd (Bp5 (u:=4) Bao puOk_nil (fns_cons is_sFollow No)) 6 (fun x=>Cl5 x.1) (fun x=>by kernel_rfl) fun x _ _=>Cl6 x.1
def Bw2 (k:Int):Bool:=decide (max k (W64 (0-k))>16777216)
abbrev Cwe:PureT:=Bbc [cI] [.b] (fun _=>true) (fun x=>(Bw2 x.1,()))
theorem D4w:Bai Tryz.prog 52 Cwe:=Bbd (Bap Bao puOk_nil (fns_cons is_sStrong No)) 6 (fun x=>.leaf (Bw2 x.1,())) (fun x=>by kernel_rfl) fun _ _ _=>rfl
abbrev cBw:TC:=.st [cI,cPt,cI,cI]
abbrev plSk:List (Nat×PureT):=(51,Cwd)::(52,Cwe)::(23,Bwg)::(43,Bi0)::(25,Byt)::plGm
theorem puSk:Bc5 Tryz.prog plSk:=puOk_cons is_sFollow.plain D4v (puOk_cons is_sStrong.plain D4w (puOk_cons is_Towards.plain Ccv (puOk_cons is_tChk.plain Bji (puOk_cons is_Posts.plain C9n puGm))))
noncomputable def D81:List (Nat×Func):=[(11,Tryz.f11),(48,Tryz.f48),(45,Tryz.f45),(47,Tryz.f47),(97,Tryz.f97),(49,Tryz.f49),(95,Tryz.f95),(96,Tryz.f96)]
noncomputable def D4x (Y:YK):Ctx:=Bv7 Tryz.prog plSk D81 [] [(50,Cdj 46 Y)]
theorem Bhg {α:Type} {d:α} (l:List α) (i j:Nat) (x:α):Bav (Bb7 l i x) j d=x∨Bav (Bb7 l i x) j d=Bav l j d:=by
 rw [Bbe,Bcv,Bcv,List.getD_eq_getElem?_getD,List.getD_eq_getElem?_getD,List.getElem?_set]
 by_cases h:i=j
 ·subst h
  rw [if_pos rfl]
  by_cases h2:i<l.length
  ·rw [if_pos h2];exact .inl rfl
  ·rw [if_neg h2,List.getElem?_eq_none (Nat.le_of_not_lt h2)];exact .inr rfl
 ·rw [if_neg h];exact .inr rfl
def smB (m:TCT Baq):Bool:=Bb3 m.2.1.1 m.2.1.2.1
def SM (l:Baj):Prop:=∀ j:Nat,smB (V2 l j)=true
theorem SM.set {l:Baj} {i:Nat} {x:TCT Baq} (h:SM l) (hx:smB x=true):SM (Bb7 l i x):=fun j=>by
 unfold V2
 rcases Bhg (d:=Bas Baq) l i j x with e | e
 ·rw [e];exact hx
 ·rw [e];exact h j
theorem Czx {a b:Bm} {k:Bme} (h:(Bfe a b k).2.2.1=0):smB (Bfe a b k).1=true∧smB (Bfe a b k).2.1=true:=by
 unfold Bfe at h ⊢
 cases h1:k.2.1 != 0 with
 | true=>rw [h1] at h;exact absurd h (bne_iff_ne.1 h1)
 | false =>
  rw [h1] at h
  simp only [cond_false] at h ⊢
  cases h2:Bb3 (W64 (a.mx-k.1.1)) (W64 (a.my-k.1.2.1)) with
  | false=>rw [h2] at h;cases h
  | true =>
   rw [h2] at h
   simp only [Bool.not_true,cond_false] at h ⊢
   cases h3:Bb3 (W64 (b.mx+k.1.1)) (W64 (b.my+k.1.2.1)) with
   | false=>rw [h3] at h;cases h
   | true=>exact ⟨h2,h3⟩
theorem C2n {l:List (TCT Fq)} {re dr:Int} {i k:Nat} {s s':SS} (h:Bdp l re dr i k s=some s') (hs:SM s.1):SM s'.1:=by
 unfold Bdp at h
 cases h1:(Bbm (bAt l s.1 i) (bAt l s.1 k) re dr).2.2.1==0 with
 | true =>
  rw [h1] at h
  simp only [cond_true,Option.some.injEq] at h
  subst h
  have b:=Czx (a:=bAt l s.1 i) (b:=bAt l s.1 k) (k:=Bqs (bAt l s.1 i) (bAt l s.1 k) re dr) (beq_iff_eq.1 h1)
  exact SM.set (SM.set hs b.1) b.2
 | false =>
  rw [h1,cond_false] at h
  cases h2:(Bbm (bAt l s.1 i) (bAt l s.1 k) re dr).2.2.1==4 with
  | true=>rw [h2] at h;simp at h
  | false=>rw [h2] at h;simp only [cond_false,Option.some.injEq] at h;subst h;exact hs
theorem C71 {l:List (TCT Fq)} {re dr:Int} {i:Nat}:∀ (f k:Nat) (s s':SS),V.inR l re dr i f k s=some s'→SM s.1→SM s'.1
 | 0,k,s,s',h,hs=>by rw [V.inR,Option.some.injEq] at h;subst h;exact hs
 | f+1,k,s,s',h,hs=>by
  rw [V.inR] at h
  cases h1:Bdp l re dr i k s with
  | none=>rw [h1] at h;simp at h
  | some s1 =>
   rw [h1,Option.bind_some] at h
   exact C71 f (k+1) s1 s' h (C2n h1 hs)
theorem Cai {l:List (TCT Fq)} {re dr:Int}:∀ (f i:Nat) (s s':SS),Bfr l re dr f i s=some s'→SM s.1→SM s'.1
 | 0,i,s,s',h,hs=>by rw [Biz,Option.some.injEq] at h;subst h;exact hs
 | f+1,i,s,s',h,hs=>by
  rw [Bh5] at h
  cases h1:V.inR l re dr i (l.length-(i+1)) (i+1) s with
  | none=>rw [h1] at h;simp at h
  | some s1 =>
   rw [h1,Option.bind_some] at h
   exact Cai f (i+1) s1 s' h (C71 _ _ _ _ h1 hs)
theorem C72:∀ (l:List (TCT Fq)) (s:Baj),l.length=s.length→(l.zip s).all Bmy=true→SM s
 | [],[],_,_=>fun _=>rfl
 | [],_::_,h,_=>by simp at h
 | _::_,[],h,_=>by simp at h
 | b::l,m::s,h,k=>by
  rw [List.zip_cons_cons,List.all_cons,Bool.and_eq_true] at k
  have h':l.length=s.length:=by simpa using h
  have ih:=C72 l s h' k.2
  intro j
  cases j with
  | zero =>
   have:=k.1
   unfold Bmy Bm.ok Bn2 at this
   simp only [Bool.and_eq_true] at this
   exact this.2.2.1
  | succ j=>exact ih j
theorem Bx6 {l:List (TCT Fq)} {s:Baj} {re dr:Int} (h:(Bbr l s re dr).2.2.1=0):SM (Bbr l s re dr).1:=by
 unfold Bbr at h ⊢
 cases h1:Bjh l s != 0 with
 | true=>rw [h1,cond_true] at h;exact absurd h (bne_iff_ne.1 h1)
 | false =>
  rw [h1,cond_false] at h
  simp only [cond_false]
  cases h2:!Bfj re dr with
  | true=>rw [h2] at h;cases h
  | false =>
   rw [h2,cond_false] at h
   simp only [cond_false]
   cases h3:Bfr l re dr l.length 0 (s,[]) with
   | none=>rw [h3] at h;cases h
   | some s' =>
    obtain ⟨_,k2,k3⟩:=C7e (bne_eq_false_iff_eq.1 h1)
    have hz:SM s:=C72 l s k2 k3
    exact Cai _ _ _ _ h3 hz
theorem Czy {W:List Int} {M ms:Baj} (hM:SM M) (hs:SM ms):SM (scV W M ms) :=
 Bax (n:=W.length) (Inv:=fun _ (s:Baj)=>SM s) (fun i s s' _ h h2=>by
  cases h2
  exact SM.set h (hM i)) W.length 0 ms _ (by omega) hs (Bgl (Bat (scE W M) 0 W.length ms))
theorem Czz {bl:List (TCT Fq)} {c:TCT Bbv} {t st w fl:Int} {n:Nat} {s:S2} {r:Baj×Kns} (h:seF bl c t st w fl n s=.inl r) (hs:SM s.1):SM r.1:=by
 unfold seF at h
 cases he:(seS bl c w fl n s).2.2.1 != 0 with
 | true=>rw [he] at h;cases h
 | false =>
  rw [he] at h
  cases h
  exact Czy (Bx6 (bne_eq_false_iff_eq.1 he)) hs
theorem D4y {n d l:Int} (hd:1≤d) (h1 : -(l*d)≤n) (h2:n≤l*d) : -l≤DW n d∧DW n d≤l:=by
 unfold DW
 have e1:(-l)*(2*d) = -(2*(l*d)):=by grind
 have e2:(l+1)*(2*d)=2*(l*d)+2*d:=by grind
 refine ⟨Int.le_ediv_of_mul_le (by omega) (by omega),?_⟩
 have:(2*n+d) / (2*d)<l+1:=Int.ediv_lt_of_lt_mul (by omega) (by omega)
 omega
theorem Cwf {x y d:Int} (h:(x*x+y*y)*4096<(d+1)*(d+1)) (hd:0≤d) : -d≤64*x∧64*x≤d:=by
 have hy:0≤y*y:=Bh0 y
 constructor
 ·by_cases k : -d≤64*x
  ·exact k
  ·have a:d+1 ≤ -(64*x):=by omega
   have b:=Int.mul_le_mul a a (by omega) (by omega)
   have e : -(64*x) * -(64*x)=(x*x)*4096:=by grind
   rw [e] at b
   omega
 ·by_cases k:64*x≤d
  ·exact k
  ·have a:d+1≤64*x:=by omega
   have b:=Int.mul_le_mul a a (by omega) (by omega)
   have e:64*x*(64*x)=(x*x)*4096:=by grind
   rw [e] at b
   omega
theorem Cwg {x d l:Int} (hd:1≤d) (hl:0≤l) (h : -d≤64*x∧64*x≤d) : -l≤ToX x 0 d l∧ToX x 0 d l≤l:=by
 unfold ToX
 have e:64*l*(x-0)=l*(64*x):=by grind
 have a:=Int.mul_le_mul_of_nonneg_left h.1 hl
 have b:=Int.mul_le_mul_of_nonneg_left h.2 hl
 rw [Int.mul_neg] at a
 rw [e,Int.zero_add]
 exact D4y hd a b
theorem Cl7 {x y l:Int} (hf:fpt x y=true) (hne:(x==0&&(y==0&&true))=false) (hl:1≤l∧l≤2097152):(TwR x y 0 0 l).2=0∧(-2097152≤(TwR x y 0 0 l).1.1∧(TwR x y 0 0 l).1.1≤2097152)∧(-2097152≤(TwR x y 0 0 l).1.2∧(TwR x y 0 0 l).1.2≤2097152):=by
 have h0:fpt 0 0=true:=by decide
 rw [Bool.and_true] at hne
 have hne2:¬ (x=0∧y=0):=by
  intro hh;rw [hh.1,hh.2] at hne;cases hne
 have hd:=Cmx hf h0 hne2
 have hs:=Cbc hf h0
 obtain ⟨r1,r2,r3⟩:=Bg5 (sq x y 0 0*4096) (by omega)
 have hdd:dTo x y 0 0=rt (sq x y 0 0*4096):=rfl
 rw [← hdd] at r1 r2 r3
 have hsq:sq x y 0 0=x*x+y*y:=by unfold sq;grind
 rw [hsq] at r3
 have a:=Cwf r3 r1
 have b:=Cwf (x:=y) (y:=x) (d:=dTo x y 0 0) (by rw [Int.add_comm (y*y)];exact r3) r1
 have c1:=Cwg hd.1 (show 0≤l by omega) a
 have c2:=Cwg hd.1 (show 0≤l by omega) b
 have ho:Bb6 l 0 4194304=false:=by
  unfold Bb6
  rw [decide_eq_false (show ¬ l<0 by omega),decide_eq_false (show ¬ 4194304<l by omega)];rfl
 have hfp:fpt (ToX x 0 (dTo x y 0 0) l) (ToX y 0 (dTo x y 0 0) l)=true:=by
  unfold fpt
  exact decide_eq_true (by omega)
 have e:TwR x y 0 0 l=((ToX x 0 (dTo x y 0 0) l,ToX y 0 (dTo x y 0 0) l),0):=by
  unfold TwR
  rw [hf,h0,ho,hne,hfp];rfl
 rw [e]
 exact ⟨rfl,⟨by show -2097152≤ToX x 0 _ l;omega,by show ToX x 0 _ l≤2097152;omega⟩,⟨by show -2097152≤ToX y 0 _ l;omega,by show ToX y 0 _ l≤2097152;omega⟩⟩
end St
end V
end Go.Proofs.YtcfanlgpkefogaaGreat
namespace Go.Proofs.YtcfanlgpkefogaaGreat
open Go.RowKit
namespace V
namespace St
def bwT {β:Type} (n:Int) (w:TCT cBw) (bad go:Tree β):Tree β:=bif decide (w.1<0) then bad else bif decide (w.1≥n) then bad else bif Bf8 w.2.1.1 w.2.1.2.1 != 0 then bad else bif w.2.1.1==0&&(w.2.1.2.1==0&&true) then bad else bif decide (w.2.2.1<1) then bad else bif decide (w.2.2.1>2097152) then bad else bif decide (w.2.2.2.1<0) then bad else bif decide (w.2.2.2.1>4) then bad else go
def bwB (n:Int) (w:TCT cBw):Bool:=decide (w.1<0)||(decide (w.1≥n)||(!fpt w.2.1.1 w.2.1.2.1||((w.2.1.1==0&&(w.2.1.2.1==0&&true))||(decide (w.2.2.1<1)||(decide (w.2.2.1>2097152)||(decide (w.2.2.2.1<0)||decide (w.2.2.2.1>4)))))))
theorem D00 {β:Type} {n:Int} {w:TCT cBw} {bad go:Tree β}:bwT n w bad go=bif bwB n w then bad else go:=by
 unfold bwT bwB
 rw [C9p]
 cases decide (w.1<0) <;> cases decide (w.1≥n) <;> cases fpt w.2.1.1 w.2.1.2.1 <;> cases w.2.1.1==0&&(w.2.1.2.1==0&&true) <;> cases decide (w.2.2.1<1) <;> cases decide (w.2.2.1>2097152) <;> cases decide (w.2.2.2.1<0) <;> cases decide (w.2.2.2.1>4) <;> rfl
structure BwOk (n:Int) (w:TCT cBw):Prop where
 b:0≤w.1∧w.1<n
 f:fpt w.2.1.1 w.2.1.2.1=true
 z:(w.2.1.1==0&&(w.2.1.2.1==0&&true))=false
 p:1≤w.2.2.1∧w.2.2.1≤2097152
 k:0≤w.2.2.2.1∧w.2.2.2.1≤4
theorem Cl8 {n:Int} {w:TCT cBw} (h:bwB n w=false):BwOk n w:=by
 unfold bwB at h
 rw [Bool.or_eq_false_iff,Bool.or_eq_false_iff,Bool.or_eq_false_iff,Bool.or_eq_false_iff,Bool.or_eq_false_iff,Bool.or_eq_false_iff,Bool.or_eq_false_iff] at h
 obtain ⟨h1,h2,h3,h4,h5,h6,h7,h8⟩:=h
 have a1:=of_decide_eq_false h1
 have a2:=of_decide_eq_false h2
 have a5:=of_decide_eq_false h5
 have a6:=of_decide_eq_false h6
 have a7:=of_decide_eq_false h7
 have a8:=of_decide_eq_false h8
 exact ⟨⟨Int.not_lt.1 a1,Int.not_le.1 a2⟩,by simpa using h3,h4,⟨Int.not_lt.1 a5,Int.not_lt.1 a6⟩,⟨Int.not_lt.1 a7,Int.not_lt.1 a8⟩⟩
def twP (w:TCT cBw):TCT cPt:=((TwR w.2.1.1 w.2.1.2.1 0 0 w.2.2.1).1.1,(TwR w.2.1.1 w.2.1.2.1 0 0 w.2.2.1).1.2,())
def twE (w:TCT cBw):Int:=(TwR w.2.1.1 w.2.1.2.1 0 0 w.2.2.1).2
def Bhs (ms:Baj) (b:Int) (v:TCT cPt):Baj:=Bb7 ms (Int.toNat b) ((V2 ms (Int.toNat b)).1,(v.1,v.2.1,()),(V2 ms (Int.toNat b)).2.2.1,())
def mX (ms:Baj) (b d:Int):Baj:=Bb7 ms (Int.toNat b) ((V2 ms (Int.toNat b)).1,(W64 ((V2 ms (Int.toNat b)).2.1.1+d),(V2 ms (Int.toNat b)).2.1.2.1,()),(V2 ms (Int.toNat b)).2.2.1,())
def mY (ms:Baj) (b d:Int):Baj:=Bb7 ms (Int.toNat b) ((V2 ms (Int.toNat b)).1,((V2 ms (Int.toNat b)).2.1.1,W64 ((V2 ms (Int.toNat b)).2.1.2.1+d),()),(V2 ms (Int.toNat b)).2.2.1,())
def fwD (m k:Int):Int:=W64 (Int.tdiv (W64 (m*Bpo k)) 1000)
def chB {β:Type} (ms:Baj) (b:Int) (k:Tree β):Tree β:=bif decide (Int.toNat b<ms.length) then k else .fail
theorem Bkp {β:Type} {ms:Baj} {b:Int} {k:Tree β} {n:Nat} (h:0≤b∧b<(n:Int)) (hl:ms.length=n):chB ms b k=k:=by
 unfold chB
 rw [decide_eq_true (show Int.toNat b<ms.length by omega)];rfl
theorem C73 {ms:Baj} {b d:Int}:(mX ms b d).length=ms.length:=Bba _ _ _
theorem D01 {ms:Baj} {b d:Int}:(mY ms b d).length=ms.length:=Bba _ _ _
theorem C2o {ms:Baj} {b:Int} {v:TCT cPt}:(Bhs ms b v).length=ms.length:=Bba _ _ _
def C2p (ms:Baj) (os:List Bool) (b fl:Int) (ks:Kns):TkR:=((ms,os,b,fl,0,()),ks,0,())
def skM (ms:Baj) (w:TCT cBw):Baj:=mY (mX ms w.1 (fwD (twP w).1 w.2.2.2.1)) w.1 (fwD (twP w).2.1 w.2.2.2.1)
def C2q (ms:Baj) (b:Int):Bool:=Bw2 (V2 ms (Int.toNat b)).2.1.1||Bw2 (V2 ms (Int.toNat b)).2.1.2.1
def skF (os:List Bool) (w:TCT cBw):(Baj×Kns)⊕Int→TkR
 | .inr e=>Bjf e
 | .inl (ms,ks)=>bif decide ((ks.length:Int)>0) then bif C2q (skM ms w) w.1 then Bjf 4 else C2p (skM ms w) os w.1 0 ks else C2p ms os w.1 0 ks
def skG (g:TCT cGr) (s:TCT cSt) (w:TCT cBw):TkR:=bif w.2.2.2.1==4 then C2p (Bhs (msT s) w.1 (twP w)) (osT s) w.1 8 [] else skF (osT s) w (seF (Fp g) g.2.2.1 0 0 w.1 0 (Fp g).length (Bhs (msT s) w.1 (twP w),osT s,[]))
def skV (g:TCT cGr) (s:TCT cSt) (w:TCT cBw):TkR:=bif Bih g s != 0 then Bjf (Bih g s) else bif bwB ((Fp g).length:Int) w then Bjf 2 else bif !Bex s||Bav (osT s) (Int.toNat w.1) (Bas .b) then Bjf 10 else skG g s w
abbrev Cdl:PureT:=Bbc [cGr,cSt,cBw] [cSt,.sl cKn,cI] (fun x=>decide ((x.1.1.1.size:Int)≤Bb2 .i64)) (fun x=>C2l (skV x.1 x.2.1 x.2.2.1))
def gS (g:TCT cGr) (s:TCT cSt) (ms:Baj) (b:Int):GB:=((g.1.1,g.1.2.1,g.1.2.2.1,g.1.2.2.2.1,g.1.2.2.2.2.1,g.1.2.2.2.2.2.1.1.1,g.1.2.2.2.2.2.1.1.2.1,g.1.2.2.2.2.2.1.2.1,g.1.2.2.2.2.2.2.1,g.1.2.2.2.2.2.2.2.1,g.1.2.2.2.2.2.2.2.2.1,g.2.1,g.2.2.1.1,g.2.2.1.2.1,Bgk g.1,ms,([]++s.2.1),b,0,0,0,((),(),()),()),([],()),())
def lfT (r:TkR):TTR:=.leaf r
def Cwh (os:List Bool) (w:TCT cBw) (ks:Kns) (ms:Baj):TTR:=chB ms w.1 (bif Bw2 (V2 ms (Int.toNat w.1)).2.1.1 then lfT (Bjf 4) else chB ms w.1 (bif Bw2 (V2 ms (Int.toNat w.1)).2.1.2.1 then lfT (Bjf 4) else lfT (C2p ms os w.1 0 ks)))
def Cl9 (os:List Bool) (w:TCT cBw) (ms:Baj) (ks:Kns):TTR:=bif decide ((ks.length:Int)>0) then chB ms w.1 (chB ms w.1 (chB (mX ms w.1 (fwD (twP w).1 w.2.2.2.1)) w.1 (chB (mX ms w.1 (fwD (twP w).1 w.2.2.2.1)) w.1 (Cwh os w ks (skM ms w))))) else lfT (C2p ms os w.1 0 ks)
def Cla (Y:YK) (g:TCT cGr) (s:TCT cSt) (w:TCT cBw):TTR:=bif w.2.2.2.1==4 then
  bif twE w != 0 then bif twE w != 0 then lfT (Bjf (twE w)) else lfT (C2p (msT s) (osT s) w.1 8 []) else inN ([]++s.1:Baj).length w.1 (chB ([]++s.1) w.1 (lfT (C2p (Bhs ([]++s.1) w.1 (twP w)) ([]++s.2.1) w.1 8 [])))
 else bif twE w != 0 then bif twE w != 0 then lfT (Bjf (twE w)) else lfT (C2p (msT s) (osT s) w.1 0 []) else inN ([]++s.1:Baj).length w.1 (chB ([]++s.1) w.1 (thY (Y (gS g s (Bhs ([]++s.1) w.1 (twP w)) w.1)) zM (fun e=>bif e != 0 then lfT (Bjf e) else .fail) fun r=>Cl9 ([]++s.2.1) w r.1 r.2))
def Csa (Y:YK) (g:TCT cGr) (s:TCT cSt) (w:TCT cBw):TTR:=szT g.1 (bif Bih g s != 0 then lfT (Bjf (Bih g s)) else bwT ((Fp g).length:Int) w (lfT (Bjf 2)) (bif !Bex s then lfT (Bjf 10) else inN (osT s).length w.1 (bif Bav (osT s) (Int.toNat w.1) (Bas .b) then lfT (Bjf 10) else szT g.1 (neT (msT s) (acT (msT s) 48 (neT (osT s) (acT (osT s) 1 (Cla Y g s w))))))))
theorem Csb (Y:YK) (x:TCTs [cGr,cSt,cBw]):Bcx (D4x Y) 8 (.fn 11) (Bdi [cGr,cSt,cBw] x) Bbx 0 (Bgq Tryz.prog [cSt,.sl cKn,cI])=Csa Y x.1 x.2.1 x.2.2.1:=by kernel_rfl
theorem Csc:CtxOk (D4x Bmv):=Bg9 Bao puSk (fns_cons is_sStrike (fns_cons is_sStrike2 (fns_cons is_newGame (fns_cons is_sTry (fns_cons is_sTry1 (fns_cons is_must (fns_cons is_clMot (fns_cons is_clBool No)))))))) Biw (fun p hp=>by
 rw [List.mem_singleton] at hp;subst hp;exact ⟨is_gsettle.plain,by rw [Cdj,Bz4];exact Crk⟩)
end St
end V
end Go.Proofs.YtcfanlgpkefogaaGreat
namespace Go.Proofs.YtcfanlgpkefogaaGreat
open Go.RowKit
namespace V
namespace St
theorem Brq {bl:List (TCT Fq)} {c:TCT Bbv} {t st w fl:Int} {n:Nat} {s:S2} {r:Baj×Kns} (h:seF bl c t st w fl n s=.inl r):r.1.length=s.1.length:=by
 unfold seF at h
 cases he:(seS bl c w fl n s).2.2.1 != 0 with
 | true=>rw [he] at h;cases h
 | false =>
  rw [he] at h
  cases h
  exact Cab
theorem Csd {g:TCT cGr} {s:TCT cSt} {ms:Baj} {b:Int} (hs:(g.1.1.size:Int)≤Bb2 .i64) (h:StaOk g s) (hm:ms.length=(Fp g).length):Bmv (gS g s ms b)=some (seF (Fp g) g.2.2.1 0 0 b 0 (Fp g).length (ms,osT s,[])):=by
 unfold Bmv
 rw [show Bmu (gS g s ms b)=true by
  unfold Bmu
  simp only [Bool.and_eq_true,decide_eq_true_eq]
  refine ⟨Bfc.2 ⟨hs,hm,?_,h.n8⟩,by show (0:Nat)≤900000;omega⟩
  show ([]++s.2.1:List Bool).length=(Fp g).length
  rw [List.nil_append];exact h.o]
 rfl
theorem Clb {os:List Bool} {w:TCT cBw} {ms:Baj} {ks:Kns} {n:Nat} (hb:0≤w.1∧w.1<(n:Int)) (hm:ms.length=n):(Cl9 os w ms ks).sat (fun y=>y=C2l (skF os w (.inl (ms,ks)))):=by
 unfold Cl9 skF
 simp only
 cases decide ((ks.length:Int)>0) with
 | false=>exact rfl
 | true =>
  simp only [cond_true]
  rw [Bkp hb hm,Bkp hb hm,Bkp hb (C73.trans hm),Bkp hb (C73.trans hm)]
  unfold Cwh
  have hl:(skM ms w).length=n:=by unfold skM;rw [D01,C73];exact hm
  rw [Bkp hb hl,Bkp hb hl]
  unfold C2q
  cases Bw2 (V2 (skM ms w) (Int.toNat w.1)).2.1.1 with
  | true=>exact rfl
  | false=>cases Bw2 (V2 (skM ms w) (Int.toNat w.1)).2.1.2.1 <;> exact rfl
theorem Clc {g:TCT cGr} {s:TCT cSt} {w:TCT cBw} (hs:(g.1.1.size:Int)≤Bb2 .i64) (h:StaOk g s) (hb:BwOk ((Fp g).length:Int) w):(Cla Bmv g s w).sat (fun y=>y=C2l (skG g s w)):=by
 have tw:=Cl7 hb.f hb.z hb.p
 have he:(twE w != 0)=false:=bne_eq_false_iff_eq.2 tw.1
 unfold Cla skG
 rw [he]
 simp only [cond_false]
 have hms:([]++s.1:Baj).length=(Fp g).length:=by rw [List.nil_append];exact h.m
 have hin:0≤w.1∧w.1<(([]++s.1:Baj).length:Int):=⟨hb.b.1,by rw [hms];exact hb.b.2⟩
 cases w.2.2.2.1==4 with
 | true=>simp only [cond_true];rw [Bde hin,Bkp hb.b hms];exact rfl
 | false =>
  simp only [cond_false]
  rw [Bde hin,Bkp hb.b hms]
  have hy:=Csd (b:=w.1) hs h (C2o (b:=w.1) (v:=twP w).trans hms)
  have e:Bhs ([]++s.1) w.1 (twP w)=Bhs (msT s) w.1 (twP w):=rfl
  rw [e] at hy ⊢
  cases hf:seF (Fp g) g.2.2.1 0 0 w.1 0 (Fp g).length (Bhs (msT s) w.1 (twP w),osT s,[]) with
  | inr x=>rw [hf] at hy;rw [Bx3 hy,show (x != 0)=true from bne_iff_ne.2 (Bz7 hf)];exact rfl
  | inl r =>
   rw [hf] at hy
   rw [Bx2 hy]
   obtain ⟨ms,ks⟩:=r
   have hl:=Brq hf
   exact Clb hb.b (hl.trans (C2o.trans h.m))
theorem Cse {g:TCT cGr} {s:TCT cSt} {w:TCT cBw} (hs:(g.1.1.size:Int)≤Bb2 .i64):(Csa Bmv g s w).sat (fun y=>y=C2l (skV g s w)):=by
 unfold Csa skV
 rw [Bdd hs,Bdd hs,D00]
 cases h1:Bih g s != 0 with
 | true=>exact rfl
 | false =>
  have h:=C70 (bne_eq_false_iff_eq.1 h1)
  have hn1:=h.n1
  have hn8:=h.n8
  have hm:=h.m
  have ho:=h.o
  simp only [cond_false]
  cases h2:bwB ((Fp g).length:Int) w with
  | true=>exact rfl
  | false =>
   have hb:=Cl8 h2
   simp only [cond_false]
   cases Bex s with
   | false=>exact rfl
   | true =>
    simp only [Bool.not_true,cond_false,Bool.false_or]
    rw [Bde ⟨hb.b.1,by rw [ho];exact hb.b.2⟩]
    cases Bav (osT s) (Int.toNat w.1) (Bas .b) with
    | true=>exact rfl
    | false =>
     simp only [cond_false]
     rw [Bz8 (by omega),Bz9 (by omega) (by decide),Bz8 (by omega),Bz9 (by omega) (by decide)]
     exact Clc hs h hb
theorem Cdm:Bai Tryz.prog 11 Cdl:=Bbd Csc 8 (fun x=>Csa Bmv x.1 x.2.1 x.2.2.1) (Csb Bmv) fun _ hok _=>Cse (of_decide_eq_true hok)
end St
end V
end Go.Proofs.YtcfanlgpkefogaaGreat
namespace Go.Proofs.YtcfanlgpkefogaaGreat
open Go.RowKit
namespace V
namespace St
theorem Csh {l:TCT Bam} {os:List Bool} {w fl:Int} {i:Nat} {ms ms':Baj} (h:slE l os w fl i ms=.inl ms'):ms'.length=ms.length:=by
 unfold slE at h
 cases h1:!Bbo ms os i||Bck w fl i with
 | true=>rw [h1] at h;cases h;rfl
 | false =>
  rw [h1] at h
  cases h2:Bdr l (V2 ms i).1 != 0 with
  | true=>rw [h2] at h;cases h
  | false =>
   rw [h2] at h
   cases h3:(Bhq l (V2 ms i)).2.1 != 0 with
   | true=>rw [h3] at h;cases h
   | false=>rw [h3] at h;cases h;exact Bba _ _ _
end St
end V
end Go.Proofs.YtcfanlgpkefogaaGreat
namespace Go.Proofs.YtcfanlgpkefogaaGreat
open Go.RowKit
namespace V
namespace St
end St
end V
end Go.Proofs.YtcfanlgpkefogaaGreat
namespace Go.Proofs.YtcfanlgpkefogaaGreat
open Go.RowKit
namespace V
namespace St
end St
end V
end Go.Proofs.YtcfanlgpkefogaaGreat
namespace Go.Proofs.YtcfanlgpkefogaaGreat
open Go.RowKit
namespace V
namespace St
end St
end V
end Go.Proofs.YtcfanlgpkefogaaGreat
