import Derived.Test.YtcfanlgpkefogaaGreatCq
namespace Go.Proofs.YtcfanlgpkefogaaGreat
open Go.RowKit
namespace V
namespace St
theorem is_sStrike2:FnIs Tryz.prog (48,Tryz.f48):=⟨Tryz.func48,by kernel_rfl,by kernel_rfl⟩
theorem is_sFollow:FnIs Tryz.prog (51,Tryz.f51):=⟨Tryz.func51,by kernel_rfl,by kernel_rfl⟩
theorem is_sStrong:FnIs Tryz.prog (52,Tryz.f52):=⟨Tryz.func52,by kernel_rfl,by kernel_rfl⟩
def Bpm (k:Int):Int:=bif 1==k then 150 else bif 2==k then 500 else bif 3==k then 900 else 0
abbrev Cvo:PureT:=Bbe [cI] [cI] (fun _=>true) (fun x=>(Bpm x.1,()))
def Ckk (k:Int):Tree (TCTs [cI]):=bif 1==k then .leaf (150,()) else bif 2==k then .leaf (500,()) else bif 3==k then .leaf (900,()) else .leaf (0,())
theorem Ckl (k:Int):(Ckk k).sat (fun y=>y=(Bpm k,())):=by
 unfold Ckk Bpm
 cases (1:Int)==k <;> cases (2:Int)==k <;> cases (3:Int)==k <;> exact rfl
theorem D48:Bai Tryz.prog 51 Cvo:=Bbg (Bp7 (u:=4) Bao puOk_nil (fns_cons is_sFollow V1)) 6 (fun x=>Ckk x.1) (fun x=>by kernel_rfl) fun x _ _=>Ckl x.1
def Bvs (k:Int):Bool:=decide (max k (W64 (0-k))>16777216)
abbrev Cvp:PureT:=Bbe [cI] [.b] (fun _=>true) (fun x=>(Bvs x.1,()))
theorem D49:Bai Tryz.prog 52 Cvp:=Bbg (Baq Bao puOk_nil (fns_cons is_sStrong V1)) 6 (fun x=>.leaf (Bvs x.1,())) (fun x=>by kernel_rfl) fun _ _ _=>rfl
abbrev cBw:TC:=.st [cI,cPt,cI,cI]
abbrev plSk:List (Nat×PureT):=(51,Cvo)::(52,Cvp)::(23,Bw9)::(43,Bi3)::(25,Byh)::plGm
theorem puSk:Bc7 Tryz.prog plSk:=puOk_cons is_sFollow.plain D48 (puOk_cons is_sStrong.plain D49 (puOk_cons is_Towards.plain Ccf (puOk_cons is_tChk.plain Bjh (puOk_cons is_Posts.plain C99 puGm))))
noncomputable def D7l:List (Nat×Func):=[(11,Tryz.f11),(48,Tryz.f48),(45,Tryz.f45),(47,Tryz.f47),(97,Tryz.f97),(49,Tryz.f49),(95,Tryz.f95),(96,Tryz.f96)]
noncomputable def D4a (Y:YK):Ctx:=Buv Tryz.prog plSk D7l [] [(50,Cd3 46 Y)]
theorem Bhi {α:Type} {d:α} (l:List α) (i j:Nat) (x:α):Bas (Bb8 l i x) j d=x∨Bas (Bb8 l i x) j d=Bas l j d:=by
 rw [Bbf,Bcv,Bcv,List.getD_eq_getElem?_getD,List.getD_eq_getElem?_getD,List.getElem?_set]
 by_cases h:i=j
 ·subst h
  rw [if_pos rfl]
  by_cases h2:i<l.length
  ·rw [if_pos h2];exact .inl rfl
  ·rw [if_neg h2,List.getElem?_eq_none (Nat.le_of_not_lt h2)];exact .inr rfl
 ·rw [if_neg h];exact .inr rfl
def smB (m:TCT Baw):Bool:=Bb3 m.2.1.1 m.2.1.2.1
def SM (l:Bak):Prop:=∀ j:Nat,smB (Bah l j)=true
theorem SM.set {l:Bak} {i:Nat} {x:TCT Baw} (h:SM l) (hx:smB x=true):SM (Bb8 l i x):=fun j=>by
 unfold Bah
 rcases Bhi (d:=Bap Baw) l i j x with e | e
 ·rw [e];exact hx
 ·rw [e];exact h j
theorem Cza {a b:Bm} {k:Bk5} (h:(Bem a b k).2.2.1=0):smB (Bem a b k).1=true∧smB (Bem a b k).2.1=true:=by
 unfold Bem at h ⊢
 cases h1:k.2.1 != 0 with
 | true=>rw [h1] at h;exact absurd h (bne_iff_ne.1 h1)
 | false =>
  rw [h1] at h
  simp only [cond_false] at h ⊢
  cases h2:Bb3 (W64 (a.mx-k.1.1)) (W64 (a.my-k.1.2.1)) with
  | false=>rw [h2] at h;cases h
  | true =>
   rw [h2] at h
   simp only [Bool.not_true,cond_false] at h ⊢
   cases h3:Bb3 (W64 (b.mx+k.1.1)) (W64 (b.my+k.1.2.1)) with
   | false=>rw [h3] at h;cases h
   | true=>exact ⟨h2,h3⟩
theorem C2a {l:List (TCT Fq)} {re dr:Int} {i k:Nat} {s s':SS} (h:Bd8 l re dr i k s=some s') (hs:SM s.1):SM s'.1:=by
 unfold Bd8 at h
 cases h1:(Bb9 (bAt l s.1 i) (bAt l s.1 k) re dr).2.2.1==0 with
 | true =>
  rw [h1] at h
  simp only [cond_true,Option.some.injEq] at h
  subst h
  have b:=Cza (a:=bAt l s.1 i) (b:=bAt l s.1 k) (k:=Bkq (bAt l s.1 i) (bAt l s.1 k) re dr) (beq_iff_eq.1 h1)
  exact SM.set (SM.set hs b.1) b.2
 | false =>
  rw [h1,cond_false] at h
  cases h2:(Bb9 (bAt l s.1 i) (bAt l s.1 k) re dr).2.2.1==4 with
  | true=>rw [h2] at h;simp at h
  | false=>rw [h2] at h;simp only [cond_false,Option.some.injEq] at h;subst h;exact hs
theorem C6n {l:List (TCT Fq)} {re dr:Int} {i:Nat}:∀ (f k:Nat) (s s':SS),V.inR l re dr i f k s=some s'→SM s.1→SM s'.1
 | 0,k,s,s',h,hs=>by rw [V.inR,Option.some.injEq] at h;subst h;exact hs
 | f+1,k,s,s',h,hs=>by
  rw [V.inR] at h
  cases h1:Bd8 l re dr i k s with
  | none=>rw [h1] at h;simp at h
  | some s1 =>
   rw [h1,Option.bind_some] at h
   exact C6n f (k+1) s1 s' h (C2a h1 hs)
theorem Ca5 {l:List (TCT Fq)} {re dr:Int}:∀ (f i:Nat) (s s':SS),Bff l re dr f i s=some s'→SM s.1→SM s'.1
 | 0,i,s,s',h,hs=>by rw [Bh7,Option.some.injEq] at h;subst h;exact hs
 | f+1,i,s,s',h,hs=>by
  rw [Bfr] at h
  cases h1:V.inR l re dr i (l.length-(i+1)) (i+1) s with
  | none=>rw [h1] at h;simp at h
  | some s1 =>
   rw [h1,Option.bind_some] at h
   exact Ca5 f (i+1) s1 s' h (C6n _ _ _ _ h1 hs)
theorem C6o:∀ (l:List (TCT Fq)) (s:Bak),l.length=s.length→(l.zip s).all Bmv=true→SM s
 | [],[],_,_=>fun _=>rfl
 | [],_::_,h,_=>by simp at h
 | _::_,[],h,_=>by simp at h
 | b::l,m::s,h,k=>by
  rw [List.zip_cons_cons,List.all_cons,Bool.and_eq_true] at k
  have h':l.length=s.length:=by simpa using h
  have ih:=C6o l s h' k.2
  intro j
  cases j with
  | zero =>
   have:=k.1
   unfold Bmv Bm.ok Bmz at this
   simp only [Bool.and_eq_true] at this
   exact this.2.2.1
  | succ j=>exact ih j
theorem Bwz {l:List (TCT Fq)} {s:Bak} {re dr:Int} (h:(Bbi l s re dr).2.2.1=0):SM (Bbi l s re dr).1:=by
 unfold Bbi at h ⊢
 cases h1:Bix l s != 0 with
 | true=>rw [h1,cond_true] at h;exact absurd h (bne_iff_ne.1 h1)
 | false =>
  rw [h1,cond_false] at h
  simp only [cond_false]
  cases h2:!Bdo re dr with
  | true=>rw [h2] at h;cases h
  | false =>
   rw [h2,cond_false] at h
   simp only [cond_false]
   cases h3:Bff l re dr l.length 0 (s,[]) with
   | none=>rw [h3] at h;cases h
   | some s' =>
    obtain ⟨_,k2,k3⟩:=C71 (bne_eq_false_iff_eq.1 h1)
    have hz:SM s:=C6o l s k2 k3
    exact Ca5 _ _ _ _ h3 hz
theorem Czb {W:List Int} {M ms:Bak} (hM:SM M) (hs:SM ms):SM (scV W M ms) :=
 Bav (n:=W.length) (Inv:=fun _ (s:Bak)=>SM s) (fun i s s' _ h h2=>by
  cases h2
  exact SM.set h (hM i)) W.length 0 ms _ (by omega) hs (Bfd (Bat (scE W M) 0 W.length ms))
theorem Czc {bl:List (TCT Fq)} {c:TCT Bbu} {t st w fl:Int} {n:Nat} {s:S2} {r:Bak×Kns} (h:seF bl c t st w fl n s=.inl r) (hs:SM s.1):SM r.1:=by
 unfold seF at h
 cases he:(seS bl c w fl n s).2.2.1 != 0 with
 | true=>rw [he] at h;cases h
 | false =>
  rw [he] at h
  cases h
  exact Czb (Bwz (bne_eq_false_iff_eq.1 he)) hs
theorem D4b {n d l:Int} (hd:1≤d) (h1 : -(l*d)≤n) (h2:n≤l*d) : -l≤DW n d∧DW n d≤l:=by
 unfold DW
 have e1:(-l)*(2*d) = -(2*(l*d)):=by grind
 have e2:(l+1)*(2*d)=2*(l*d)+2*d:=by grind
 refine ⟨Int.le_ediv_of_mul_le (by omega) (by omega),?_⟩
 have:(2*n+d) / (2*d)<l+1:=Int.ediv_lt_of_lt_mul (by omega) (by omega)
 omega
theorem Cvq {x y d:Int} (h:(x*x+y*y)*4096<(d+1)*(d+1)) (hd:0≤d) : -d≤64*x∧64*x≤d:=by
 have hy:0≤y*y:=Bfe y
 constructor
 ·by_cases k : -d≤64*x
  ·exact k
  ·have a:d+1 ≤ -(64*x):=by omega
   have b:=Int.mul_le_mul a a (by omega) (by omega)
   have e : -(64*x) * -(64*x)=(x*x)*4096:=by grind
   rw [e] at b
   omega
 ·by_cases k:64*x≤d
  ·exact k
  ·have a:d+1≤64*x:=by omega
   have b:=Int.mul_le_mul a a (by omega) (by omega)
   have e:64*x*(64*x)=(x*x)*4096:=by grind
   rw [e] at b
   omega
theorem Cvr {x d l:Int} (hd:1≤d) (hl:0≤l) (h : -d≤64*x∧64*x≤d) : -l≤ToX x 0 d l∧ToX x 0 d l≤l:=by
 unfold ToX
 have e:64*l*(x-0)=l*(64*x):=by grind
 have a:=Int.mul_le_mul_of_nonneg_left h.1 hl
 have b:=Int.mul_le_mul_of_nonneg_left h.2 hl
 rw [Int.mul_neg] at a
 rw [e,Int.zero_add]
 exact D4b hd a b
theorem Ckm {x y l:Int} (hf:fpt x y=true) (hne:(x==0&&(y==0&&true))=false) (hl:1≤l∧l≤2097152):(TwR x y 0 0 l).2=0∧(-2097152≤(TwR x y 0 0 l).1.1∧(TwR x y 0 0 l).1.1≤2097152)∧(-2097152≤(TwR x y 0 0 l).1.2∧(TwR x y 0 0 l).1.2≤2097152):=by
 have h0:fpt 0 0=true:=by decide
 rw [Bool.and_true] at hne
 have hne2:¬ (x=0∧y=0):=by
  intro hh;rw [hh.1,hh.2] at hne;cases hne
 have hd:=Cmd hf h0 hne2
 have hs:=Cb0 hf h0
 obtain ⟨r1,r2,r3⟩:=Bg7 (sq x y 0 0*4096) (by omega)
 have hdd:dTo x y 0 0=rt (sq x y 0 0*4096):=rfl
 rw [← hdd] at r1 r2 r3
 have hsq:sq x y 0 0=x*x+y*y:=by unfold sq;grind
 rw [hsq] at r3
 have a:=Cvq r3 r1
 have b:=Cvq (x:=y) (y:=x) (d:=dTo x y 0 0) (by rw [Int.add_comm (y*y)];exact r3) r1
 have c1:=Cvr hd.1 (show 0≤l by omega) a
 have c2:=Cvr hd.1 (show 0≤l by omega) b
 have ho:Bb6 l 0 4194304=false:=by
  unfold Bb6
  rw [decide_eq_false (show ¬ l<0 by omega),decide_eq_false (show ¬ 4194304<l by omega)];rfl
 have hfp:fpt (ToX x 0 (dTo x y 0 0) l) (ToX y 0 (dTo x y 0 0) l)=true:=by
  unfold fpt
  exact decide_eq_true (by omega)
 have e:TwR x y 0 0 l=((ToX x 0 (dTo x y 0 0) l,ToX y 0 (dTo x y 0 0) l),0):=by
  unfold TwR
  rw [hf,h0,ho,hne,hfp];rfl
 rw [e]
 exact ⟨rfl,⟨by show -2097152≤ToX x 0 _ l;omega,by show ToX x 0 _ l≤2097152;omega⟩,⟨by show -2097152≤ToX y 0 _ l;omega,by show ToX y 0 _ l≤2097152;omega⟩⟩
end St
end V
end Go.Proofs.YtcfanlgpkefogaaGreat
namespace Go.Proofs.YtcfanlgpkefogaaGreat
open Go.RowKit
namespace V
namespace St
def bwT {β:Type} (n:Int) (w:TCT cBw) (bad go:Tree β):Tree β:=bif decide (w.1<0) then bad else bif decide (w.1≥n) then bad else bif Bfs w.2.1.1 w.2.1.2.1 != 0 then bad else bif w.2.1.1==0&&(w.2.1.2.1==0&&true) then bad else bif decide (w.2.2.1<1) then bad else bif decide (w.2.2.1>2097152) then bad else bif decide (w.2.2.2.1<0) then bad else bif decide (w.2.2.2.1>4) then bad else go
def bwB (n:Int) (w:TCT cBw):Bool:=decide (w.1<0)||(decide (w.1≥n)||(!fpt w.2.1.1 w.2.1.2.1||((w.2.1.1==0&&(w.2.1.2.1==0&&true))||(decide (w.2.2.1<1)||(decide (w.2.2.1>2097152)||(decide (w.2.2.2.1<0)||decide (w.2.2.2.1>4)))))))
theorem Czd {β:Type} {n:Int} {w:TCT cBw} {bad go:Tree β}:bwT n w bad go=bif bwB n w then bad else go:=by
 unfold bwT bwB
 rw [C9b]
 cases decide (w.1<0) <;> cases decide (w.1≥n) <;> cases fpt w.2.1.1 w.2.1.2.1 <;> cases w.2.1.1==0&&(w.2.1.2.1==0&&true) <;> cases decide (w.2.2.1<1) <;> cases decide (w.2.2.1>2097152) <;> cases decide (w.2.2.2.1<0) <;> cases decide (w.2.2.2.1>4) <;> rfl
structure BwOk (n:Int) (w:TCT cBw):Prop where
 b:0≤w.1∧w.1<n
 f:fpt w.2.1.1 w.2.1.2.1=true
 z:(w.2.1.1==0&&(w.2.1.2.1==0&&true))=false
 p:1≤w.2.2.1∧w.2.2.1≤2097152
 k:0≤w.2.2.2.1∧w.2.2.2.1≤4
theorem Ckn {n:Int} {w:TCT cBw} (h:bwB n w=false):BwOk n w:=by
 unfold bwB at h
 rw [Bool.or_eq_false_iff,Bool.or_eq_false_iff,Bool.or_eq_false_iff,Bool.or_eq_false_iff,Bool.or_eq_false_iff,Bool.or_eq_false_iff,Bool.or_eq_false_iff] at h
 obtain ⟨h1,h2,h3,h4,h5,h6,h7,h8⟩:=h
 have a1:=of_decide_eq_false h1
 have a2:=of_decide_eq_false h2
 have a5:=of_decide_eq_false h5
 have a6:=of_decide_eq_false h6
 have a7:=of_decide_eq_false h7
 have a8:=of_decide_eq_false h8
 exact ⟨⟨Int.not_lt.1 a1,Int.not_le.1 a2⟩,by simpa using h3,h4,⟨Int.not_lt.1 a5,Int.not_lt.1 a6⟩,⟨Int.not_lt.1 a7,Int.not_lt.1 a8⟩⟩
def twP (w:TCT cBw):TCT cPt:=((TwR w.2.1.1 w.2.1.2.1 0 0 w.2.2.1).1.1,(TwR w.2.1.1 w.2.1.2.1 0 0 w.2.2.1).1.2,())
def twE (w:TCT cBw):Int:=(TwR w.2.1.1 w.2.1.2.1 0 0 w.2.2.1).2
def Bhv (ms:Bak) (b:Int) (v:TCT cPt):Bak:=Bb8 ms (Int.toNat b) ((Bah ms (Int.toNat b)).1,(v.1,v.2.1,()),(Bah ms (Int.toNat b)).2.2.1,())
def mX (ms:Bak) (b d:Int):Bak:=Bb8 ms (Int.toNat b) ((Bah ms (Int.toNat b)).1,(W64 ((Bah ms (Int.toNat b)).2.1.1+d),(Bah ms (Int.toNat b)).2.1.2.1,()),(Bah ms (Int.toNat b)).2.2.1,())
def mY (ms:Bak) (b d:Int):Bak:=Bb8 ms (Int.toNat b) ((Bah ms (Int.toNat b)).1,((Bah ms (Int.toNat b)).2.1.1,W64 ((Bah ms (Int.toNat b)).2.1.2.1+d),()),(Bah ms (Int.toNat b)).2.2.1,())
def fwD (m k:Int):Int:=W64 (Int.tdiv (W64 (m*Bpm k)) 1000)
def chB {β:Type} (ms:Bak) (b:Int) (k:Tree β):Tree β:=bif decide (Int.toNat b<ms.length) then k else .fail
theorem Bkl {β:Type} {ms:Bak} {b:Int} {k:Tree β} {n:Nat} (h:0≤b∧b<(n:Int)) (hl:ms.length=n):chB ms b k=k:=by
 unfold chB
 rw [decide_eq_true (show Int.toNat b<ms.length by omega)];rfl
theorem C6p {ms:Bak} {b d:Int}:(mX ms b d).length=ms.length:=Bbb _ _ _
theorem Cze {ms:Bak} {b d:Int}:(mY ms b d).length=ms.length:=Bbb _ _ _
theorem C2b {ms:Bak} {b:Int} {v:TCT cPt}:(Bhv ms b v).length=ms.length:=Bbb _ _ _
def C2c (ms:Bak) (os:List Bool) (b fl:Int) (ks:Kns):TkR:=((ms,os,b,fl,0,()),ks,0,())
def skM (ms:Bak) (w:TCT cBw):Bak:=mY (mX ms w.1 (fwD (twP w).1 w.2.2.2.1)) w.1 (fwD (twP w).2.1 w.2.2.2.1)
def C2d (ms:Bak) (b:Int):Bool:=Bvs (Bah ms (Int.toNat b)).2.1.1||Bvs (Bah ms (Int.toNat b)).2.1.2.1
def skF (os:List Bool) (w:TCT cBw):(Bak×Kns)⊕Int→TkR
 | .inr e=>Bjf e
 | .inl (ms,ks)=>bif decide ((ks.length:Int)>0) then bif C2d (skM ms w) w.1 then Bjf 4 else C2c (skM ms w) os w.1 0 ks else C2c ms os w.1 0 ks
def skG (g:TCT cGr) (s:TCT cSt) (w:TCT cBw):TkR:=bif w.2.2.2.1==4 then C2c (Bhv (msT s) w.1 (twP w)) (osT s) w.1 8 [] else skF (osT s) w (seF (No g) g.2.2.1 0 0 w.1 0 (No g).length (Bhv (msT s) w.1 (twP w),osT s,[]))
def skV (g:TCT cGr) (s:TCT cSt) (w:TCT cBw):TkR:=bif Bij g s != 0 then Bjf (Bij g s) else bif bwB ((No g).length:Int) w then Bjf 2 else bif !Bey s||Bas (osT s) (Int.toNat w.1) (Bap .b) then Bjf 10 else skG g s w
abbrev Cd5:PureT:=Bbe [cGr,cSt,cBw] [cSt,.sl cKn,cI] (fun x=>decide ((x.1.1.1.size:Int)≤Bb4 .i64)) (fun x=>C28 (skV x.1 x.2.1 x.2.2.1))
def gS (g:TCT cGr) (s:TCT cSt) (ms:Bak) (b:Int):GB:=((g.1.1,g.1.2.1,g.1.2.2.1,g.1.2.2.2.1,g.1.2.2.2.2.1,g.1.2.2.2.2.2.1.1.1,g.1.2.2.2.2.2.1.1.2.1,g.1.2.2.2.2.2.1.2.1,g.1.2.2.2.2.2.2.1,g.1.2.2.2.2.2.2.2.1,g.1.2.2.2.2.2.2.2.2.1,g.2.1,g.2.2.1.1,g.2.2.1.2.1,Bgm g.1,ms,([]++s.2.1),b,0,0,0,((),(),()),()),([],()),())
def lfT (r:TkR):TTR:=.leaf r
def Cvs (os:List Bool) (w:TCT cBw) (ks:Kns) (ms:Bak):TTR:=chB ms w.1 (bif Bvs (Bah ms (Int.toNat w.1)).2.1.1 then lfT (Bjf 4) else chB ms w.1 (bif Bvs (Bah ms (Int.toNat w.1)).2.1.2.1 then lfT (Bjf 4) else lfT (C2c ms os w.1 0 ks)))
def Cko (os:List Bool) (w:TCT cBw) (ms:Bak) (ks:Kns):TTR:=bif decide ((ks.length:Int)>0) then chB ms w.1 (chB ms w.1 (chB (mX ms w.1 (fwD (twP w).1 w.2.2.2.1)) w.1 (chB (mX ms w.1 (fwD (twP w).1 w.2.2.2.1)) w.1 (Cvs os w ks (skM ms w))))) else lfT (C2c ms os w.1 0 ks)
def Ckp (Y:YK) (g:TCT cGr) (s:TCT cSt) (w:TCT cBw):TTR:=bif w.2.2.2.1==4 then
  bif twE w != 0 then bif twE w != 0 then lfT (Bjf (twE w)) else lfT (C2c (msT s) (osT s) w.1 8 []) else inN ([]++s.1:Bak).length w.1 (chB ([]++s.1) w.1 (lfT (C2c (Bhv ([]++s.1) w.1 (twP w)) ([]++s.2.1) w.1 8 [])))
 else bif twE w != 0 then bif twE w != 0 then lfT (Bjf (twE w)) else lfT (C2c (msT s) (osT s) w.1 0 []) else inN ([]++s.1:Bak).length w.1 (chB ([]++s.1) w.1 (thY (Y (gS g s (Bhv ([]++s.1) w.1 (twP w)) w.1)) zM (fun e=>bif e != 0 then lfT (Bjf e) else .fail) fun r=>Cko ([]++s.2.1) w r.1 r.2))
def Crt (Y:YK) (g:TCT cGr) (s:TCT cSt) (w:TCT cBw):TTR:=szT g.1 (bif Bij g s != 0 then lfT (Bjf (Bij g s)) else bwT ((No g).length:Int) w (lfT (Bjf 2)) (bif !Bey s then lfT (Bjf 10) else inN (osT s).length w.1 (bif Bas (osT s) (Int.toNat w.1) (Bap .b) then lfT (Bjf 10) else szT g.1 (neT (msT s) (acT (msT s) 48 (neT (osT s) (acT (osT s) 1 (Ckp Y g s w))))))))
theorem Cru (Y:YK) (x:TCTs [cGr,cSt,cBw]):Bcx (D4a Y) 8 (.fn 11) (Bdi [cGr,cSt,cBw] x) Bbx 0 (Bgt Tryz.prog [cSt,.sl cKn,cI])=Crt Y x.1 x.2.1 x.2.2.1:=by kernel_rfl
theorem Crv:CtxOk (D4a Bms):=Bgb Bao puSk (fns_cons is_sStrike (fns_cons is_sStrike2 (fns_cons is_newGame (fns_cons is_sTry (fns_cons is_sTry1 (fns_cons is_must (fns_cons is_clMot (fns_cons is_clBool V1)))))))) Biu (fun p hp=>by
 rw [List.mem_singleton] at hp;subst hp;exact ⟨is_gsettle.plain,by rw [Cd3,Bys];exact Cr3⟩)
end St
end V
end Go.Proofs.YtcfanlgpkefogaaGreat
namespace Go.Proofs.YtcfanlgpkefogaaGreat
open Go.RowKit
namespace V
namespace St
theorem Byy {bl:List (TCT Fq)} {c:TCT Bbu} {t st w fl:Int} {n:Nat} {s:S2} {r:Bak×Kns} (h:seF bl c t st w fl n s=.inl r):r.1.length=s.1.length:=by
 unfold seF at h
 cases he:(seS bl c w fl n s).2.2.1 != 0 with
 | true=>rw [he] at h;cases h
 | false =>
  rw [he] at h
  cases h
  exact C9x
theorem Crw {g:TCT cGr} {s:TCT cSt} {ms:Bak} {b:Int} (hs:(g.1.1.size:Int)≤Bb4 .i64) (h:StaOk g s) (hm:ms.length=(No g).length):Bms (gS g s ms b)=some (seF (No g) g.2.2.1 0 0 b 0 (No g).length (ms,osT s,[])):=by
 unfold Bms
 rw [show Bmr (gS g s ms b)=true by
  unfold Bmr
  simp only [Bool.and_eq_true,decide_eq_true_eq]
  refine ⟨Bfc.2 ⟨hs,hm,?_,h.n8⟩,by show (0:Nat)≤900000;omega⟩
  show ([]++s.2.1:List Bool).length=(No g).length
  rw [List.nil_append];exact h.o]
 rfl
theorem Ckq {os:List Bool} {w:TCT cBw} {ms:Bak} {ks:Kns} {n:Nat} (hb:0≤w.1∧w.1<(n:Int)) (hm:ms.length=n):(Cko os w ms ks).sat (fun y=>y=C28 (skF os w (.inl (ms,ks)))):=by
 unfold Cko skF
 simp only
 cases decide ((ks.length:Int)>0) with
 | false=>exact rfl
 | true =>
  simp only [cond_true]
  rw [Bkl hb hm,Bkl hb hm,Bkl hb (C6p.trans hm),Bkl hb (C6p.trans hm)]
  unfold Cvs
  have hl:(skM ms w).length=n:=by unfold skM;rw [Cze,C6p];exact hm
  rw [Bkl hb hl,Bkl hb hl]
  unfold C2d
  cases Bvs (Bah (skM ms w) (Int.toNat w.1)).2.1.1 with
  | true=>exact rfl
  | false=>cases Bvs (Bah (skM ms w) (Int.toNat w.1)).2.1.2.1 <;> exact rfl
theorem Ckr {g:TCT cGr} {s:TCT cSt} {w:TCT cBw} (hs:(g.1.1.size:Int)≤Bb4 .i64) (h:StaOk g s) (hb:BwOk ((No g).length:Int) w):(Ckp Bms g s w).sat (fun y=>y=C28 (skG g s w)):=by
 have tw:=Ckm hb.f hb.z hb.p
 have he:(twE w != 0)=false:=bne_eq_false_iff_eq.2 tw.1
 unfold Ckp skG
 rw [he]
 simp only [cond_false]
 have hms:([]++s.1:Bak).length=(No g).length:=by rw [List.nil_append];exact h.m
 have hin:0≤w.1∧w.1<(([]++s.1:Bak).length:Int):=⟨hb.b.1,by rw [hms];exact hb.b.2⟩
 cases w.2.2.2.1==4 with
 | true=>simp only [cond_true];rw [Bde hin,Bkl hb.b hms];exact rfl
 | false =>
  simp only [cond_false]
  rw [Bde hin,Bkl hb.b hms]
  have hy:=Crw (b:=w.1) hs h (C2b (b:=w.1) (v:=twP w).trans hms)
  have e:Bhv ([]++s.1) w.1 (twP w)=Bhv (msT s) w.1 (twP w):=rfl
  rw [e] at hy ⊢
  cases hf:seF (No g) g.2.2.1 0 0 w.1 0 (No g).length (Bhv (msT s) w.1 (twP w),osT s,[]) with
  | inr x=>rw [hf] at hy;rw [Bww hy,show (x != 0)=true from bne_iff_ne.2 (Byv hf)];exact rfl
  | inl r =>
   rw [hf] at hy
   rw [Bwv hy]
   obtain ⟨ms,ks⟩:=r
   have hl:=Byy hf
   exact Ckq hb.b (hl.trans (C2b.trans h.m))
theorem Crx {g:TCT cGr} {s:TCT cSt} {w:TCT cBw} (hs:(g.1.1.size:Int)≤Bb4 .i64):(Crt Bms g s w).sat (fun y=>y=C28 (skV g s w)):=by
 unfold Crt skV
 rw [Bdm hs,Bdm hs,Czd]
 cases h1:Bij g s != 0 with
 | true=>exact rfl
 | false =>
  have h:=C6m (bne_eq_false_iff_eq.1 h1)
  have hn1:=h.n1
  have hn8:=h.n8
  have hm:=h.m
  have ho:=h.o
  simp only [cond_false]
  cases h2:bwB ((No g).length:Int) w with
  | true=>exact rfl
  | false =>
   have hb:=Ckn h2
   simp only [cond_false]
   cases Bey s with
   | false=>exact rfl
   | true =>
    simp only [Bool.not_true,cond_false,Bool.false_or]
    rw [Bde ⟨hb.b.1,by rw [ho];exact hb.b.2⟩]
    cases Bas (osT s) (Int.toNat w.1) (Bap .b) with
    | true=>exact rfl
    | false =>
     simp only [cond_false]
     rw [Byw (by omega),Byx (by omega) (by decide),Byw (by omega),Byx (by omega) (by decide)]
     exact Ckr hs h hb
theorem Cd6:Bai Tryz.prog 11 Cd5:=Bbg Crv 8 (fun x=>Crt Bms x.1 x.2.1 x.2.2.1) (Cru Bms) fun _ hok _=>Crx (of_decide_eq_true hok)
end St
end V
end Go.Proofs.YtcfanlgpkefogaaGreat
namespace Go.Proofs.YtcfanlgpkefogaaGreat
open Go.RowKit
namespace V
namespace St
noncomputable def Cgf:Code:=(Ban (bodyOf Tryz.f141)).getD 0 .skip
theorem Ca8 {l:TCT Bal} {os:List Bool} {w fl:Int} {i:Nat} {ms ms':Bak} (h:slE l os w fl i ms=.inl ms'):ms'.length=ms.length:=by
 unfold slE at h
 cases h1:!Bbq ms os i||Bdj w fl i with
 | true=>rw [h1] at h;cases h;rfl
 | false =>
  rw [h1] at h
  cases h2:Be0 l (Bah ms i).1 != 0 with
  | true=>rw [h2] at h;cases h
  | false =>
   rw [h2] at h
   cases h3:(Bhu l (Bah ms i)).2.1 != 0 with
   | true=>rw [h3] at h;cases h
   | false=>rw [h3] at h;cases h;exact Bbb _ _ _
end St
end V
end Go.Proofs.YtcfanlgpkefogaaGreat
namespace Go.Proofs.YtcfanlgpkefogaaGreat
open Go.RowKit
namespace V
namespace St
end St
end V
end Go.Proofs.YtcfanlgpkefogaaGreat
namespace Go.Proofs.YtcfanlgpkefogaaGreat
open Go.RowKit
namespace V
namespace St
end St
end V
end Go.Proofs.YtcfanlgpkefogaaGreat
namespace Go.Proofs.YtcfanlgpkefogaaGreat
open Go.RowKit
namespace V
namespace St
end St
end V
end Go.Proofs.YtcfanlgpkefogaaGreat
