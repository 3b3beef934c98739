import Derived.Test.YtcfanlgpkefogaaGreatCq
namespace Go.Proofs.YtcfanlgpkefogaaGreat
open Go.RowKit
namespace V
namespace St
theorem is_sStrike2:FnIs Tryz.prog (48,Tryz.f48):=⟨Tryz.func48,by kernel_rfl,by kernel_rfl⟩
theorem is_sFollow:FnIs Tryz.prog (51,Tryz.f51):=⟨Tryz.func51,by kernel_rfl,by kernel_rfl⟩
theorem is_sStrong:FnIs Tryz.prog (52,Tryz.f52):=⟨Tryz.func52,by kernel_rfl,by kernel_rfl⟩
def Bqu (k:Int):Int:=bif 1==k then 150 else bif 2==k then 500 else bif 3==k then 900 else 0
abbrev D29:PureT:=Bbh [cI] [cI] (fun _=>true) (fun x=>(Bqu x.1,()))
def Cph (k:Int):Tree (TCTs [cI]):=bif 1==k then .leaf (150,()) else bif 2==k then .leaf (500,()) else bif 3==k then .leaf (900,()) else .leaf (0,())
theorem Cpi (k:Int):(Cph k).sat (fun y=>y=(Bqu k,())):=by
 unfold Cph Bqu
 cases (1:Int)==k <;> cases (2:Int)==k <;> cases (3:Int)==k <;> exact rfl
theorem Dbh:Bai Tryz.prog 51 D29:=Bbj (Bn3 (u:=4) Bar puOk_nil (fns_cons is_sFollow V1)) 6 (fun x=>Cph x.1) (fun x=>by kernel_rfl) fun x _ _=>Cpi x.1
def Bxu (k:Int):Bool:=decide (max k (W64 (0-k))>16777216)
abbrev D2a:PureT:=Bbh [cI] [.b] (fun _=>true) (fun x=>(Bxu x.1,()))
theorem Dbi:Bai Tryz.prog 52 D2a:=Bbj (Bas Bar puOk_nil (fns_cons is_sStrong V1)) 6 (fun x=>.leaf (Bxu x.1,())) (fun x=>by kernel_rfl) fun _ _ _=>rfl
abbrev cBw:TC:=.st [cI,cPt,cI,cI]
abbrev plSk:List (Nat×PureT):=(51,D29)::(52,D2a)::(23,By9)::(43,Bit)::(25,C0u)::plGm
theorem puSk:Bcd Tryz.prog plSk:=puOk_cons is_sFollow.plain Dbh (puOk_cons is_sStrong.plain Dbi (puOk_cons is_Towards.plain Bya (puOk_cons is_tChk.plain Bk9 (puOk_cons is_Posts.plain C0v puGm))))
noncomputable def Df8:List (Nat×Func):=[(11,Tryz.f11),(48,Tryz.f48),(45,Tryz.f45),(47,Tryz.f47),(97,Tryz.f97),(49,Tryz.f49),(95,Tryz.f95),(96,Tryz.f96)]
noncomputable def Dbj (Y:YK):Ctx:=Brf Tryz.prog plSk Df8 [] [(50,Chj 46 Y)]
theorem Bia {α:Type} {d:α} (l:List α) (i j:Nat) (x:α):Bam (Bba l i x) j d=x∨Bam (Bba l i x) j d=Bam l j d:=by
 rw [Bbl,Bda,Bda,List.getD_eq_getElem?_getD,List.getD_eq_getElem?_getD,List.getElem?_set]
 by_cases h:i=j
 ·subst h
  rw [if_pos rfl]
  by_cases h2:i<l.length
  ·rw [if_pos h2];exact .inl rfl
  ·rw [if_neg h2,List.getElem?_eq_none (Nat.le_of_not_lt h2)];exact .inr rfl
 ·rw [if_neg h];exact .inr rfl
def smB (m:TCT Bat):Bool:=Bb3 m.2.1.1 m.2.1.2.1
def SM (l:Bal):Prop:=∀ j:Nat,smB (Bag l j)=true
theorem SM.set {l:Bal} {i:Nat} {x:TCT Bat} (h:SM l) (hx:smB x=true):SM (Bba l i x):=fun j=>by
 unfold Bag
 rcases Bia (d:=Baj Bat) l i j x with e | e
 ·rw [e];exact hx
 ·rw [e];exact h j
theorem D5x {a b:Bm} {k:Bky} (h:(Bf9 a b k).2.2.1=0):smB (Bf9 a b k).1=true∧smB (Bf9 a b k).2.1=true:=by
 unfold Bf9 at h ⊢
 cases h1:k.2.1 != 0 with
 | true=>rw [h1] at h;exact absurd h (bne_iff_ne.1 h1)
 | false =>
  rw [h1] at h
  simp only [cond_false] at h ⊢
  cases h2:Bb3 (W64 (a.mx-k.1.1)) (W64 (a.my-k.1.2.1)) with
  | false=>rw [h2] at h;cases h
  | true =>
   rw [h2] at h
   simp only [Bool.not_true,cond_false] at h ⊢
   cases h3:Bb3 (W64 (b.mx+k.1.1)) (W64 (b.my+k.1.2.1)) with
   | false=>rw [h3] at h;cases h
   | true=>exact ⟨h2,h3⟩
theorem C5a {l:List (TCT No)} {re dr:Int} {i k:Nat} {s s':SS} (h:Bds l re dr i k s=some s') (hs:SM s.1):SM s'.1:=by
 unfold Bds at h
 cases h1:(Bbi (bAt l s.1 i) (bAt l s.1 k) re dr).2.2.1==0 with
 | true =>
  rw [h1] at h
  simp only [cond_true,Option.some.injEq] at h
  subst h
  have b:=D5x (a:=bAt l s.1 i) (b:=bAt l s.1 k) (k:=Bln (bAt l s.1 i) (bAt l s.1 k) re dr) (beq_iff_eq.1 h1)
  exact SM.set (SM.set hs b.1) b.2
 | false =>
  rw [h1,cond_false] at h
  cases h2:(Bbi (bAt l s.1 i) (bAt l s.1 k) re dr).2.2.1==4 with
  | true=>rw [h2] at h;simp at h
  | false=>rw [h2] at h;simp only [cond_false,Option.some.injEq] at h;subst h;exact hs
theorem Ca3 {l:List (TCT No)} {re dr:Int} {i:Nat}:∀ (f k:Nat) (s s':SS),V.inR l re dr i f k s=some s'→SM s.1→SM s'.1
 | 0,k,s,s',h,hs=>by rw [V.inR,Option.some.injEq] at h;subst h;exact hs
 | f+1,k,s,s',h,hs=>by
  rw [V.inR] at h
  cases h1:Bds l re dr i k s with
  | none=>rw [h1] at h;simp at h
  | some s1 =>
   rw [h1,Option.bind_some] at h
   exact Ca3 f (k+1) s1 s' h (C5a h1 hs)
theorem Ce8 {l:List (TCT No)} {re dr:Int}:∀ (f i:Nat) (s s':SS),Bfk l re dr f i s=some s'→SM s.1→SM s'.1
 | 0,i,s,s',h,hs=>by rw [Bjp,Option.some.injEq] at h;subst h;exact hs
 | f+1,i,s,s',h,hs=>by
  rw [Bhu] at h
  cases h1:V.inR l re dr i (l.length-(i+1)) (i+1) s with
  | none=>rw [h1] at h;simp at h
  | some s1 =>
   rw [h1,Option.bind_some] at h
   exact Ce8 f (i+1) s1 s' h (Ca3 _ _ _ _ h1 hs)
theorem Ca4:∀ (l:List (TCT No)) (s:Bal),l.length=s.length→(l.zip s).all Bnx=true→SM s
 | [],[],_,_=>fun _=>rfl
 | [],_::_,h,_=>by simp at h
 | _::_,[],h,_=>by simp at h
 | b::l,m::s,h,k=>by
  rw [List.zip_cons_cons,List.all_cons,Bool.and_eq_true] at k
  have h':l.length=s.length:=by simpa using h
  have ih:=Ca4 l s h' k.2
  intro j
  cases j with
  | zero =>
   have:=k.1
   unfold Bnx Bm.ok Bo1 at this
   simp only [Bool.and_eq_true] at this
   exact this.2.2.1
  | succ j=>exact ih j
theorem Byy {l:List (TCT No)} {s:Bal} {re dr:Int} (h:(Bbn l s re dr).2.2.1=0):SM (Bbn l s re dr).1:=by
 unfold Bbn at h ⊢
 cases h1:Bjd l s != 0 with
 | true=>rw [h1,cond_true] at h;exact absurd h (bne_iff_ne.1 h1)
 | false =>
  rw [h1,cond_false] at h
  simp only [cond_false]
  cases h2:!Be3 re dr with
  | true=>rw [h2] at h;cases h
  | false =>
   rw [h2,cond_false] at h
   simp only [cond_false]
   cases h3:Bfk l re dr l.length 0 (s,[]) with
   | none=>rw [h3] at h;cases h
   | some s' =>
    obtain ⟨_,k2,k3⟩:=Cam (bne_eq_false_iff_eq.1 h1)
    have hz:SM s:=Ca4 l s k2 k3
    exact Ce8 _ _ _ _ h3 hz
theorem D5y {W:List Int} {M ms:Bal} (hM:SM M) (hs:SM ms):SM (scV W M ms) :=
 Bay (n:=W.length) (Inv:=fun _ (s:Bal)=>SM s) (fun i s s' _ h h2=>by
  cases h2
  exact SM.set h (hM i)) W.length 0 ms _ (by omega) hs (Bgh (Bap (scE W M) 0 W.length ms))
theorem D5z {bl:List (TCT No)} {c:TCT Bbv} {t st w fl:Int} {n:Nat} {s:S2} {r:Bal×Kns} (h:seF bl c t st w fl n s=.inl r) (hs:SM s.1):SM r.1:=by
 unfold seF at h
 cases he:(seS bl c w fl n s).2.2.1 != 0 with
 | true=>rw [he] at h;cases h
 | false =>
  rw [he] at h
  cases h
  exact D5y (Byy (bne_eq_false_iff_eq.1 he)) hs
theorem Dbk {n d l:Int} (hd:1≤d) (h1 : -(l*d)≤n) (h2:n≤l*d) : -l≤DW n d∧DW n d≤l:=by
 unfold DW
 have e1:(-l)*(2*d) = -(2*(l*d)):=by grind
 have e2:(l+1)*(2*d)=2*(l*d)+2*d:=by grind
 refine ⟨Int.le_ediv_of_mul_le (by omega) (by omega),?_⟩
 have:(2*n+d) / (2*d)<l+1:=Int.ediv_lt_of_lt_mul (by omega) (by omega)
 omega
theorem D2b {x y d:Int} (h:(x*x+y*y)*4096<(d+1)*(d+1)) (hd:0≤d) : -d≤64*x∧64*x≤d:=by
 have hy:0≤y*y:=Bg1 y
 constructor
 ·by_cases k : -d≤64*x
  ·exact k
  ·have a:d+1 ≤ -(64*x):=by omega
   have b:=Int.mul_le_mul a a (by omega) (by omega)
   have e : -(64*x) * -(64*x)=(x*x)*4096:=by grind
   rw [e] at b
   omega
 ·by_cases k:64*x≤d
  ·exact k
  ·have a:d+1≤64*x:=by omega
   have b:=Int.mul_le_mul a a (by omega) (by omega)
   have e:64*x*(64*x)=(x*x)*4096:=by grind
   rw [e] at b
   omega
theorem D2c {x d l:Int} (hd:1≤d) (hl:0≤l) (h : -d≤64*x∧64*x≤d) : -l≤ToX x 0 d l∧ToX x 0 d l≤l:=by
 unfold ToX
 have e:64*l*(x-0)=l*(64*x):=by grind
 have a:=Int.mul_le_mul_of_nonneg_left h.1 hl
 have b:=Int.mul_le_mul_of_nonneg_left h.2 hl
 rw [Int.mul_neg] at a
 rw [e,Int.zero_add]
 exact Dbk hd a b
theorem Ce9 {x y l:Int} (hf:fpt x y=true) (hne:(x==0&&(y==0&&true))=false) (hl:1≤l∧l≤2097152):(TwR x y 0 0 l).2=0∧(-2097152≤(TwR x y 0 0 l).1.1∧(TwR x y 0 0 l).1.1≤2097152)∧(-2097152≤(TwR x y 0 0 l).1.2∧(TwR x y 0 0 l).1.2≤2097152):=by
 have h0:fpt 0 0=true:=by decide
 rw [Bool.and_true] at hne
 have hne2:¬ (x=0∧y=0):=by
  intro hh;rw [hh.1,hh.2] at hne;cases hne
 have hd:=Cas hf h0 hne2
 have hs:=C67 hf h0
 obtain ⟨r1,r2,r3⟩:=Bg0 (sq x y 0 0*4096) (by omega)
 have hdd:dTo x y 0 0=rt (sq x y 0 0*4096):=rfl
 rw [← hdd] at r1 r2 r3
 have hsq:sq x y 0 0=x*x+y*y:=by unfold sq;grind
 rw [hsq] at r3
 have a:=D2b r3 r1
 have b:=D2b (x:=y) (y:=x) (d:=dTo x y 0 0) (by rw [Int.add_comm (y*y)];exact r3) r1
 have c1:=D2c hd.1 (show 0≤l by omega) a
 have c2:=D2c hd.1 (show 0≤l by omega) b
 have ho:Bb8 l 0 4194304=false:=by
  unfold Bb8
  rw [decide_eq_false (show ¬ l<0 by omega),decide_eq_false (show ¬ 4194304<l by omega)];rfl
 have hfp:fpt (ToX x 0 (dTo x y 0 0) l) (ToX y 0 (dTo x y 0 0) l)=true:=by
  unfold fpt
  exact decide_eq_true (by omega)
 have e:TwR x y 0 0 l=((ToX x 0 (dTo x y 0 0) l,ToX y 0 (dTo x y 0 0) l),0):=by
  unfold TwR
  rw [hf,h0,ho,hne,hfp];rfl
 rw [e]
 exact ⟨rfl,⟨by show -2097152≤ToX x 0 _ l;omega,by show ToX x 0 _ l≤2097152;omega⟩,⟨by show -2097152≤ToX y 0 _ l;omega,by show ToX y 0 _ l≤2097152;omega⟩⟩
end St
end V
end Go.Proofs.YtcfanlgpkefogaaGreat
namespace Go.Proofs.YtcfanlgpkefogaaGreat
open Go.RowKit
namespace V
namespace St
def bwT {β:Type} (n:Int) (w:TCT cBw) (bad go:Tree β):Tree β:=bif decide (w.1<0) then bad else bif decide (w.1≥n) then bad else bif Bgi w.2.1.1 w.2.1.2.1 != 0 then bad else bif w.2.1.1==0&&(w.2.1.2.1==0&&true) then bad else bif decide (w.2.2.1<1) then bad else bif decide (w.2.2.1>2097152) then bad else bif decide (w.2.2.2.1<0) then bad else bif decide (w.2.2.2.1>4) then bad else go
def bwB (n:Int) (w:TCT cBw):Bool:=decide (w.1<0)||(decide (w.1≥n)||(!fpt w.2.1.1 w.2.1.2.1||((w.2.1.1==0&&(w.2.1.2.1==0&&true))||(decide (w.2.2.1<1)||(decide (w.2.2.1>2097152)||(decide (w.2.2.2.1<0)||decide (w.2.2.2.1>4)))))))
theorem D60 {β:Type} {n:Int} {w:TCT cBw} {bad go:Tree β}:bwT n w bad go=bif bwB n w then bad else go:=by
 unfold bwT bwB
 rw [Bp3]
 cases decide (w.1<0) <;> cases decide (w.1≥n) <;> cases fpt w.2.1.1 w.2.1.2.1 <;> cases w.2.1.1==0&&(w.2.1.2.1==0&&true) <;> cases decide (w.2.2.1<1) <;> cases decide (w.2.2.1>2097152) <;> cases decide (w.2.2.2.1<0) <;> cases decide (w.2.2.2.1>4) <;> rfl
structure BwOk (n:Int) (w:TCT cBw):Prop where
 b:0≤w.1∧w.1<n
 f:fpt w.2.1.1 w.2.1.2.1=true
 z:(w.2.1.1==0&&(w.2.1.2.1==0&&true))=false
 p:1≤w.2.2.1∧w.2.2.1≤2097152
 k:0≤w.2.2.2.1∧w.2.2.2.1≤4
theorem Cea {n:Int} {w:TCT cBw} (h:bwB n w=false):BwOk n w:=by
 unfold bwB at h
 rw [Bool.or_eq_false_iff,Bool.or_eq_false_iff,Bool.or_eq_false_iff,Bool.or_eq_false_iff,Bool.or_eq_false_iff,Bool.or_eq_false_iff,Bool.or_eq_false_iff] at h
 obtain ⟨h1,h2,h3,h4,h5,h6,h7,h8⟩:=h
 have a1:=of_decide_eq_false h1
 have a2:=of_decide_eq_false h2
 have a5:=of_decide_eq_false h5
 have a6:=of_decide_eq_false h6
 have a7:=of_decide_eq_false h7
 have a8:=of_decide_eq_false h8
 exact ⟨⟨Int.not_lt.1 a1,Int.not_le.1 a2⟩,by simpa using h3,h4,⟨Int.not_lt.1 a5,Int.not_lt.1 a6⟩,⟨Int.not_lt.1 a7,Int.not_lt.1 a8⟩⟩
def twP (w:TCT cBw):TCT cPt:=((TwR w.2.1.1 w.2.1.2.1 0 0 w.2.2.1).1.1,(TwR w.2.1.1 w.2.1.2.1 0 0 w.2.2.1).1.2,())
def twE (w:TCT cBw):Int:=(TwR w.2.1.1 w.2.1.2.1 0 0 w.2.2.1).2
def Bg9 (ms:Bal) (b:Int) (v:TCT cPt):Bal:=Bba ms (Int.toNat b) ((Bag ms (Int.toNat b)).1,(v.1,v.2.1,()),(Bag ms (Int.toNat b)).2.2.1,())
def mX (ms:Bal) (b d:Int):Bal:=Bba ms (Int.toNat b) ((Bag ms (Int.toNat b)).1,(W64 ((Bag ms (Int.toNat b)).2.1.1+d),(Bag ms (Int.toNat b)).2.1.2.1,()),(Bag ms (Int.toNat b)).2.2.1,())
def mY (ms:Bal) (b d:Int):Bal:=Bba ms (Int.toNat b) ((Bag ms (Int.toNat b)).1,((Bag ms (Int.toNat b)).2.1.1,W64 ((Bag ms (Int.toNat b)).2.1.2.1+d),()),(Bag ms (Int.toNat b)).2.2.1,())
def fwD (m k:Int):Int:=W64 (Int.tdiv (W64 (m*Bqu k)) 1000)
def chB {β:Type} (ms:Bal) (b:Int) (k:Tree β):Tree β:=bif decide (Int.toNat b<ms.length) then k else .fail
theorem Blg {β:Type} {ms:Bal} {b:Int} {k:Tree β} {n:Nat} (h:0≤b∧b<(n:Int)) (hl:ms.length=n):chB ms b k=k:=by
 unfold chB
 rw [decide_eq_true (show Int.toNat b<ms.length by omega)];rfl
theorem Ca5 {ms:Bal} {b d:Int}:(mX ms b d).length=ms.length:=Bbd _ _ _
theorem D61 {ms:Bal} {b d:Int}:(mY ms b d).length=ms.length:=Bbd _ _ _
theorem Buz {ms:Bal} {b:Int} {v:TCT cPt}:(Bg9 ms b v).length=ms.length:=Bbd _ _ _
def C5b (ms:Bal) (os:List Bool) (b fl:Int) (ks:Kns):TkR:=((ms,os,b,fl,0,()),ks,0,())
def skM (ms:Bal) (w:TCT cBw):Bal:=mY (mX ms w.1 (fwD (twP w).1 w.2.2.2.1)) w.1 (fwD (twP w).2.1 w.2.2.2.1)
def C1j (ms:Bal) (b:Int):Bool:=Bxu (Bag ms (Int.toNat b)).2.1.1||Bxu (Bag ms (Int.toNat b)).2.1.2.1
def skF (os:List Bool) (w:TCT cBw):(Bal×Kns)⊕Int→TkR
 | .inr e=>Bfz e
 | .inl (ms,ks)=>bif decide ((ks.length:Int)>0) then bif C1j (skM ms w) w.1 then Bfz 4 else C5b (skM ms w) os w.1 0 ks else C5b ms os w.1 0 ks
def skG (g:TCT cGr) (s:TCT cSt) (w:TCT cBw):TkR:=bif w.2.2.2.1==4 then C5b (Bg9 (msT s) w.1 (twP w)) (osT s) w.1 8 [] else skF (osT s) w (seF (V2 g) g.2.2.1 0 0 w.1 0 (V2 g).length (Bg9 (msT s) w.1 (twP w),osT s,[]))
def skV (g:TCT cGr) (s:TCT cSt) (w:TCT cBw):TkR:=bif Be0 g s != 0 then Bfz (Be0 g s) else bif bwB ((V2 g).length:Int) w then Bfz 2 else bif !Bcc s||Bam (osT s) (Int.toNat w.1) (Baj .b) then Bfz 10 else skG g s w
abbrev Chk:PureT:=Bbh [cGr,cSt,cBw] [cSt,.sl cKn,cI] (fun x=>decide ((x.1.1.1.size:Int)≤Bb2 .i64)) (fun x=>Buw (skV x.1 x.2.1 x.2.2.1))
def gS (g:TCT cGr) (s:TCT cSt) (ms:Bal) (b:Int):GB:=((g.1.1,g.1.2.1,g.1.2.2.1,g.1.2.2.2.1,g.1.2.2.2.2.1,g.1.2.2.2.2.2.1.1.1,g.1.2.2.2.2.2.1.1.2.1,g.1.2.2.2.2.2.1.2.1,g.1.2.2.2.2.2.2.1,g.1.2.2.2.2.2.2.2.1,g.1.2.2.2.2.2.2.2.2.1,g.2.1,g.2.2.1.1,g.2.2.1.2.1,postsV g.1,ms,([]++s.2.1),b,0,0,0,((),(),()),()),([],()),())
def lfT (r:TkR):TTR:=.leaf r
def D2d (os:List Bool) (w:TCT cBw) (ks:Kns) (ms:Bal):TTR:=chB ms w.1 (bif Bxu (Bag ms (Int.toNat w.1)).2.1.1 then lfT (Bfz 4) else chB ms w.1 (bif Bxu (Bag ms (Int.toNat w.1)).2.1.2.1 then lfT (Bfz 4) else lfT (C5b ms os w.1 0 ks)))
def Cpj (os:List Bool) (w:TCT cBw) (ms:Bal) (ks:Kns):TTR:=bif decide ((ks.length:Int)>0) then chB ms w.1 (chB ms w.1 (chB (mX ms w.1 (fwD (twP w).1 w.2.2.2.1)) w.1 (chB (mX ms w.1 (fwD (twP w).1 w.2.2.2.1)) w.1 (D2d os w ks (skM ms w))))) else lfT (C5b ms os w.1 0 ks)
def Cpk (Y:YK) (g:TCT cGr) (s:TCT cSt) (w:TCT cBw):TTR:=bif w.2.2.2.1==4 then
  bif twE w != 0 then bif twE w != 0 then lfT (Bfz (twE w)) else lfT (C5b (msT s) (osT s) w.1 8 []) else inN ([]++s.1:Bal).length w.1 (chB ([]++s.1) w.1 (lfT (C5b (Bg9 ([]++s.1) w.1 (twP w)) ([]++s.2.1) w.1 8 [])))
 else bif twE w != 0 then bif twE w != 0 then lfT (Bfz (twE w)) else lfT (C5b (msT s) (osT s) w.1 0 []) else inN ([]++s.1:Bal).length w.1 (chB ([]++s.1) w.1 (thY (Y (gS g s (Bg9 ([]++s.1) w.1 (twP w)) w.1)) zM (fun e=>bif e != 0 then lfT (Bfz e) else .fail) fun r=>Cpj ([]++s.2.1) w r.1 r.2))
def Cx8 (Y:YK) (g:TCT cGr) (s:TCT cSt) (w:TCT cBw):TTR:=szT g.1 (bif Be0 g s != 0 then lfT (Bfz (Be0 g s)) else bwT ((V2 g).length:Int) w (lfT (Bfz 2)) (bif !Bcc s then lfT (Bfz 10) else inN (osT s).length w.1 (bif Bam (osT s) (Int.toNat w.1) (Baj .b) then lfT (Bfz 10) else szT g.1 (neT (msT s) (acT (msT s) 48 (neT (osT s) (acT (osT s) 1 (Cpk Y g s w))))))))
theorem Cx9 (Y:YK) (x:TCTs [cGr,cSt,cBw]):Bcr (Dbj Y) 8 (.fn 11) (Bdd [cGr,cSt,cBw] x) Bbz 0 (Bh7 Tryz.prog [cSt,.sl cKn,cI])=Cx8 Y x.1 x.2.1 x.2.2.1:=by kernel_rfl
theorem Cxa:CtxOk (Dbj Bnu):=Bfj Bar puSk (fns_cons is_sStrike (fns_cons is_sStrike2 (fns_cons is_newGame (fns_cons is_sTry (fns_cons is_sTry1 (fns_cons is_must (fns_cons is_clMot (fns_cons is_clBool V1)))))))) Bhs (fun p hp=>by
 rw [List.mem_singleton] at hp;subst hp;exact ⟨is_gsettle.plain,by rw [Chj,C1f];exact Cwo⟩)
end St
end V
end Go.Proofs.YtcfanlgpkefogaaGreat
namespace Go.Proofs.YtcfanlgpkefogaaGreat
open Go.RowKit
namespace V
namespace St
theorem C1k {bl:List (TCT No)} {c:TCT Bbv} {t st w fl:Int} {n:Nat} {s:S2} {r:Bal×Kns} (h:seF bl c t st w fl n s=.inl r):r.1.length=s.1.length:=by
 unfold seF at h
 cases he:(seS bl c w fl n s).2.2.1 != 0 with
 | true=>rw [he] at h;cases h
 | false =>
  rw [he] at h
  cases h
  exact Cdt
theorem Cxb {g:TCT cGr} {s:TCT cSt} {ms:Bal} {b:Int} (hs:(g.1.1.size:Int)≤Bb2 .i64) (h:StaOk g s) (hm:ms.length=(V2 g).length):Bnu (gS g s ms b)=some (seF (V2 g) g.2.2.1 0 0 b 0 (V2 g).length (ms,osT s,[])):=by
 unfold Bnu
 rw [show Bn8 (gS g s ms b)=true by
  unfold Bn8
  simp only [Bool.and_eq_true,decide_eq_true_eq]
  refine ⟨Bdo.2 ⟨hs,hm,?_,h.n8⟩,by show (0:Nat)≤900000;omega⟩
  show ([]++s.2.1:List Bool).length=(V2 g).length
  rw [List.nil_append];exact h.o]
 rfl
theorem Cpl {os:List Bool} {w:TCT cBw} {ms:Bal} {ks:Kns} {n:Nat} (hb:0≤w.1∧w.1<(n:Int)) (hm:ms.length=n):(Cpj os w ms ks).sat (fun y=>y=Buw (skF os w (.inl (ms,ks)))):=by
 unfold Cpj skF
 simp only
 cases decide ((ks.length:Int)>0) with
 | false=>exact rfl
 | true =>
  simp only [cond_true]
  rw [Blg hb hm,Blg hb hm,Blg hb (Ca5.trans hm),Blg hb (Ca5.trans hm)]
  unfold D2d
  have hl:(skM ms w).length=n:=by unfold skM;rw [D61,Ca5];exact hm
  rw [Blg hb hl,Blg hb hl]
  unfold C1j
  cases Bxu (Bag (skM ms w) (Int.toNat w.1)).2.1.1 with
  | true=>exact rfl
  | false=>cases Bxu (Bag (skM ms w) (Int.toNat w.1)).2.1.2.1 <;> exact rfl
theorem Cpm {g:TCT cGr} {s:TCT cSt} {w:TCT cBw} (hs:(g.1.1.size:Int)≤Bb2 .i64) (h:StaOk g s) (hb:BwOk ((V2 g).length:Int) w):(Cpk Bnu g s w).sat (fun y=>y=Buw (skG g s w)):=by
 have tw:=Ce9 hb.f hb.z hb.p
 have he:(twE w != 0)=false:=bne_eq_false_iff_eq.2 tw.1
 unfold Cpk skG
 rw [he]
 simp only [cond_false]
 have hms:([]++s.1:Bal).length=(V2 g).length:=by rw [List.nil_append];exact h.m
 have hin:0≤w.1∧w.1<(([]++s.1:Bal).length:Int):=⟨hb.b.1,by rw [hms];exact hb.b.2⟩
 cases w.2.2.2.1==4 with
 | true=>simp only [cond_true];rw [Bd0 hin,Blg hb.b hms];exact rfl
 | false =>
  simp only [cond_false]
  rw [Bd0 hin,Blg hb.b hms]
  have hy:=Cxb (b:=w.1) hs h (Buz (b:=w.1) (v:=twP w).trans hms)
  have e:Bg9 ([]++s.1) w.1 (twP w)=Bg9 (msT s) w.1 (twP w):=rfl
  rw [e] at hy ⊢
  cases hf:seF (V2 g) g.2.2.1 0 0 w.1 0 (V2 g).length (Bg9 (msT s) w.1 (twP w),osT s,[]) with
  | inr x=>rw [hf] at hy;rw [Brw hy,show (x != 0)=true from bne_iff_ne.2 (Buv hf)];exact rfl
  | inl r =>
   rw [hf] at hy
   rw [Brv hy]
   obtain ⟨ms,ks⟩:=r
   have hl:=C1k hf
   exact Cpl hb.b (hl.trans (Buz.trans h.m))
theorem Cxc {g:TCT cGr} {s:TCT cSt} {w:TCT cBw} (hs:(g.1.1.size:Int)≤Bb2 .i64):(Cx8 Bnu g s w).sat (fun y=>y=Buw (skV g s w)):=by
 unfold Cx8 skV
 rw [Bce hs,Bce hs,D60]
 cases h1:Be0 g s != 0 with
 | true=>exact rfl
 | false =>
  have h:=C1i (bne_eq_false_iff_eq.1 h1)
  have hn1:=h.n1
  have hn8:=h.n8
  have hm:=h.m
  have ho:=h.o
  simp only [cond_false]
  cases h2:bwB ((V2 g).length:Int) w with
  | true=>exact rfl
  | false =>
   have hb:=Cea h2
   simp only [cond_false]
   cases Bcc s with
   | false=>exact rfl
   | true =>
    simp only [Bool.not_true,cond_false,Bool.false_or]
    rw [Bd0 ⟨hb.b.1,by rw [ho];exact hb.b.2⟩]
    cases Bam (osT s) (Int.toNat w.1) (Baj .b) with
    | true=>exact rfl
    | false =>
     simp only [cond_false]
     rw [Bqs (by omega),Bqt (by omega) (by decide),Bqs (by omega),Bqt (by omega) (by decide)]
     exact Cpm hs h hb
theorem Byz:Bai Tryz.prog 11 Chk:=Bbj Cxa 8 (fun x=>Cx8 Bnu x.1 x.2.1 x.2.2.1) (Cx9 Bnu) fun _ hok _=>Cxc (of_decide_eq_true hok)
end St
end V
end Go.Proofs.YtcfanlgpkefogaaGreat
namespace Go.Proofs.YtcfanlgpkefogaaGreat
open Go.RowKit
namespace V
def Cpo {L:Lay2} {E:XE→Lay2} {A:Type} (t:TypeId) (k:IntKind) (Y:L.T→Option (A⊕Int)) (mk:L.T→A→(E (.exit 0)).T) (pn:L.T→(n:Int)→(E (.panic (.ifc t (.int k n)))).T) (d:A) (g:L.T):Tree (Bdx E) :=
 .br (isL (Y g)) (.leaf ⟨.exit 0,mk g (gL d (Y g))⟩) (.br (isR (Y g)) (.leaf ⟨.panic (.ifc t (.int k (gR 0 (Y g)))),pn g (gR 0 (Y g))⟩) .fail)
def Dbl {L:Lay2} {E:XE→Lay2} {A:Type} (t:TypeId) (k:IntKind) (mk:L.T→A→(E (.exit 0)).T) (pn:L.T→(n:Int)→(E (.panic (.ifc t (.int k n)))).T) (g:L.T):A⊕Int→Bdx E
 | .inl a=>⟨.exit 0,mk g a⟩
 | .inr e=>⟨.panic (.ifc t (.int k e)),pn g e⟩
theorem Chl {X:Ctx} (hX:CtxOk X) (m:Nat) (fn:FuncId) {c:Code} (L:Lay2) (E:XE→Lay2) (hE:∀ e,L.nx≤(E e).nx) {A:Type} (t:TypeId) (k:IntKind) (Y:L.T→Option (A⊕Int)) (mk:L.T→A→(E (.exit 0)).T) (pn:L.T→(n:Int)→(E (.panic (.ifc t (.int k n)))).T) (d:A) (step:L.T→Tree (L.T⊕Bdx E))
  (hstep:∀ g,evC X.P (Bcr X m) X.pures fn X.u (fun _=>none) c (L.of g) (Bg4 L E)=step g)
  (hfin:∀ g z,L.WF g→Y g=some z→∃ n,∀ R:Bdx E→Prop,R (Dbl t k mk pn g z)→Bwr L E step R n g):Baw X.P fn c (Bg5 L E (Cpo t k Y mk pn d)):=by
 refine Boa hX m fn (fun _=>none) (fun _ _ f h=>by simp at h) L E hE (Cpo t k Y mk pn d) step hstep ?_
 intro g R hw hf
 obtain ⟨h1,h2⟩:=hf
 cases hY:Y g with
 | none =>
  rw [hY] at h2
  exact ((h2 rfl).2 rfl).elim
 | some z =>
  obtain ⟨n,hn⟩:=hfin g z hw hY
  refine ⟨n,hn R ?_⟩
  rw [hY] at h1 h2
  cases z with
  | inl a=>exact h1 rfl
  | inr e=>exact (h2 rfl).1 rfl
namespace St
theorem is_srun:FnIs Tryz.prog (63,Tryz.f63):=⟨Tryz.func63,by kernel_rfl,by kernel_rfl⟩
theorem is_srun2:FnIs Tryz.prog (108,Tryz.f108):=⟨Tryz.func108,by kernel_rfl,by kernel_rfl⟩
theorem is_sticks:FnIs Tryz.prog (109,Tryz.f109):=⟨Tryz.func109,by kernel_rfl,by kernel_rfl⟩
theorem is_sticks1:FnIs Tryz.prog (141,Tryz.f141):=⟨Tryz.func141,by kernel_rfl,by kernel_rfl⟩
theorem is_sPlay:FnIs Tryz.prog (21,Tryz.f21):=⟨Tryz.func21,by kernel_rfl,by kernel_rfl⟩
theorem is_sPlay1:FnIs Tryz.prog (64,Tryz.f64):=⟨Tryz.func64,by kernel_rfl,by kernel_rfl⟩
theorem is_sTrack:FnIs Tryz.prog (29,Tryz.f29):=⟨Tryz.func29,by kernel_rfl,by kernel_rfl⟩
theorem is_sTrack1:FnIs Tryz.prog (80,Tryz.f80):=⟨Tryz.func80,by kernel_rfl,by kernel_rfl⟩
noncomputable def D63:List (Nat×Func):=[(63,Tryz.f63),(108,Tryz.f108),(109,Tryz.f109),(141,Tryz.f141),(45,Tryz.f45),(47,Tryz.f47),(97,Tryz.f97),(49,Tryz.f49),(95,Tryz.f95),(96,Tryz.f96),(21,Tryz.f21),(64,Tryz.f64),(29,Tryz.f29),(80,Tryz.f80)]
theorem Cee:∀ p ∈ D63,FnIs Tryz.prog p:=fns_cons is_srun (fns_cons is_srun2 (fns_cons is_sticks (fns_cons is_sticks1 (fns_cons is_newGame (fns_cons is_sTry (fns_cons is_sTry1 (fns_cons is_must (fns_cons is_clMot (fns_cons is_clBool (fns_cons is_sPlay (fns_cons is_sPlay1 (fns_cons is_sTrack (fns_cons is_sTrack1 V1)))))))))))))
noncomputable def Ccf:Code:=(Bak (bodyOf Tryz.f141)).getD 0 .skip
abbrev kGo (k:Nat):List SK:=[.d .s,.d cI,.d cI,.d cI,.d (.sl Bbq),.d cI,.d cI,.d cI,.d cI,.d cI,.d (.sl Bc5),.d (.sl No),.d cI,.d cI,.d (.sl Baf),.o 60 Bat,.o 4 .b,.d cI,.d cI,.d cI,.d cI,.f 107 [] [.p k 0 0 0]]
abbrev kSn:List SK:=[.o 60 Bat,.o 4 .b,.d cI,.d cI,.d cI]
noncomputable def lkR (o:Nat):LK:={ id:=o+31,keys:=[2,3],ks:=[.p (o+8) 0 0 0,.p (o+6) 0 0 0],n:=16,fn:=108,params:=[8],assign:=(rangeAt Tryz.f108 0).1,body:=(rangeAt Tryz.f108 0).2,df:=o+30,st:=some 0 }
def Df9:List BK:=[(2,45,kSn),(6,151,[.f 64 [] []]),(7,45,kSn),(8,48,[.o 58 cKn]),(25,137,kGo 8),(26,130,[.p 25 0 0 0]),(27,49,[.d cI]),(28,130,[.p 25 0 0 0]),(29,3,[.d cI])]
def Dfa:List BK:=[(2,45,kSn),(7,45,kSn),(8,48,[.o 58 cKn]),(25,137,kGo 8),(26,130,[.p 25 0 0 0]),(27,49,[.d cI])]
def Dfb:List BK:=[(2,45,kSn),(7,45,kSn),(27,49,[.d cI])]
noncomputable def Bss:Lay2:={ keys:=[0,1,2],ks:=[.y 31,.p 28 0 0 0,.p 29 0 0 0],bs:=Df9,ls:=[lkR 0],n:=25,nx:=1000,marks:=[],ds:=[30] }
noncomputable def Dbm:Lay2:={ keys:=[],ks:=[],bs:=Dfa,ls:=[lkR 0],n:=25,nx:=1000,marks:=[],ds:=[30] }
def Dbn:Lay2:={ keys:=[],ks:=[],bs:=Dfb,ls:=[],n:=25,nx:=1000,marks:=[],ds:=[30] }
noncomputable def Ca6:XE→Lay2:=fun e=>match e with | .panic _=>Dbn | _=>Dbm
noncomputable def Cxf (Y:Y2):Ctx:=Brf Tryz.prog plTk D63 [] [(54,spYT 107 Y)]
theorem Cxg:CtxOk (Cxf Bl3):=Bfj Bar puTk Cee Bhs (fun p hp=>by
 rw [List.mem_singleton] at hp;subst hp;exact ⟨is_gtick.plain,Cwz⟩)
noncomputable def lsP (o:Nat):LTs [lkR o]:=(((((),(),()):SKTs (lkR o).ks),((():Unit):StT (lkR o).st)),())
structure CP where
 a:SKTs kSn
 b:SKTs kSn
 e:Int
def cpl (g:Bss.T):CP:=⟨g.2.1.1,g.2.1.2.2.1,g.2.1.2.2.2.2.2.2.1.1⟩
def xpl (g:Bss.T):GB:=(g.2.1.2.2.2.2.1,(g.2.1.2.2.2.1.1,()),())
def npl (g:Bss.T):Int:=g.2.1.2.2.2.2.2.2.2.2.1.1
noncomputable def D2e (c:CP) (x:GB) (n:Int):Bss.T:=(((),(),(),()),(c.a,(((),()),()),c.b,(x.2.1.1,()),x.1,((),()),(c.e,()),((),()),(n,()),()),lsP 0)
noncomputable def Cpp (c:CP) (x:GB):Dbm.T:=((),(c.a,c.b,(x.2.1.1,()),x.1,((),()),(c.e,()),()),lsP 0)
def Cpq (c:CP):Dbn.T:=((),(c.a,c.b,(c.e,()),()),())
abbrev TPl:=Tree (Bss.T⊕Bdx Ca6)
noncomputable def D2f (c:CP) (x:GB):TPl:=.need (Bij [lkR 0]) (.leaf (.inr ⟨.exit 0,Cpp c x⟩))
noncomputable def D2g (c:CP) (e:Int):TPl:=.need (Bij []) (.leaf (.inr ⟨.panic (.ifc 49 (.int .i64 e)),Cpq c⟩))
def stG (m:GM):TCT cSt:=(gmM m,gmO m,gmW m,gmF m,gmT m,())
noncomputable def Bnv (Y:Y2) (c:CP) (x:GB) (n:Int):TPl:=bif decide (((gk x).length:Int)>4096) then D2g c 6 else bif decide (n>0) then bif !Bcc (stG x.1) then thY (Y x) z2 (D2g c) fun s=>.need (Bij [lkR 0]) (.leaf (.inl (D2e c (xT x s) (W64 (n-1))))) else D2f c x else D2f c x
theorem Dfc (Y:Y2) (g:Bss.T):evC Tryz.prog (Bcr (Cxf Y) 9) (Cxf Y).pures 141 (Cxf Y).u (fun _=>none) Ccf (Bss.of g) (Bg4 Bss Ca6)=Bnv Y (cpl g) (xpl g) (npl g):=by kernel_rfl
def plRn:Nat→GB→GB⊕Int
 | 0,x=>bif decide (((gk x).length:Int)>4096) then .inr 6 else .inl x
 | n+1,x=>bif decide (((gk x).length:Int)>4096) then .inr 6 else bif !Bcc (stG x.1) then match tkF (ctG x.1) (gs x) with
  | .inl s=>plRn n (xT x s)
  | .inr e=>.inr e
  else .inl x
abbrev YP:Type:=GB→Int→Option (GB⊕Int)
def Chm (x:GB) (n:Int):Bool:=Cha x.1&&(decide ((gmP x.1).length≤1000)&&decide (0≤n∧n≤4000))
def C5c (x:GB) (n:Int):Option (GB⊕Int):=bif Chm x n then some (plRn (Int.toNat n) x) else none
def zGB:GB:=(dflKs (kGm 0),([],()),())
noncomputable def D64 (Y:YP):Bss.T→Tree (Bdx Ca6):=Cpo 49 .i64 (fun g=>Y (xpl g) (npl g)) (fun g=>Cpp (cpl g)) (fun g _=>Cpq (cpl g)) zGB
noncomputable def D2h (Y:YP):St→Tree (XE×St):=Bg5 Bss Ca6 (D64 Y)
theorem Cef {l:TCT Ban} {os:List Bool} {w fl:Int} {i:Nat} {ms ms':Bal} (h:slE l os w fl i ms=.inl ms'):ms'.length=ms.length:=by
 unfold slE at h
 cases h1:!Bbu ms os i||Bdb w fl i with
 | true=>rw [h1] at h;cases h;rfl
 | false =>
  rw [h1] at h
  cases h2:Be9 l (Bag ms i).1 != 0 with
  | true=>rw [h2] at h;cases h
  | false =>
   rw [h2] at h
   cases h3:(Bi9 l (Bag ms i)).2.1 != 0 with
   | true=>rw [h3] at h;cases h
   | false=>rw [h3] at h;cases h;exact Bbd _ _ _
theorem Cxh {k:CT} {s s':S2} (hn:k.bl.length≤8) (hp:k.ps.length≤1000) (hm:s.1.length=k.bl.length) (ho:s.2.1.length=k.bl.length) (h:tkF k s=.inl s'):s'.1.length=k.bl.length∧s'.2.1.length=k.bl.length:=by
 unfold tkF at h
 cases h0:k.t==4000 with
 | true=>rw [h0] at h;cases h
 | false =>
  rw [h0] at h
  simp only [cond_false] at h
  cases h1:Bap (slE k.l s.2.1 k.w k.fl) 0 k.bl.length s.1 with
  | inr e=>rw [h1] at h;cases h
  | inl ms =>
   rw [h1] at h
   have a:ms.length=k.bl.length:=Bay (n:=k.bl.length) (Inv:=fun _ (s:Bal)=>s.length=k.bl.length) (fun i s s' _ hl h=>(Cef h).trans hl) k.bl.length 0 _ _ (by omega) hm h1
   have h2:Bap (tkE k) 0 16 (ms,s.2.1,s.2.2)=.inl s':=h
   have b:Inv2 k.bl.length (s.2.2.length+16*8072) 0 s':=Bay (n:=16) (Inv:=fun i s2=>Inv2 k.bl.length (s.2.2.length+i*8072) 0 s2) (fun i s s' hi hs h=>C1h (m:=16) hn hp i s s' hi hs h) 16 0 (ms,s.2.1,s.2.2) s' (by omega) ⟨a,ho,by show s.2.2.length≤s.2.2.length+0*8072+0;omega⟩ h2
   exact ⟨b.m,b.o⟩
theorem Cxi {x:GB} {s:S2} (h:OkGM x.1) (hp:(gmP x.1).length≤1000) (ht:tkF (ctG x.1) (gs x)=.inl s):OkGM (xT x s).1:=by
 have a:=Cxh (k:=ctG x.1) h.n hp h.ms h.os ht
 exact Bdo.1 (Bdo.2 ⟨h.sz,a.1,a.2,h.n⟩)
theorem Ceg (c:CP) {R:Bdx Ca6→Prop}:∀ (n:Nat) (x:GB),n≤4000→OkGM x.1→(gmP x.1).length≤1000→R (match plRn n x with
  | .inl x'=>⟨.exit 0,Cpp c x'⟩
  | .inr e=>⟨.panic (.ifc 49 (.int .i64 e)),Cpq c⟩)→Bwr Bss Ca6 (fun g=>Bnv Bl3 (cpl g) (xpl g) (npl g)) R (n+1) (D2e c x n)
 | 0,x,_,h,hp,hR=>by
  intro _
  show (Bnv Bl3 c x ((0:Nat):Int)).sat _
  unfold Bnv
  unfold plRn at hR
  cases hm:decide (((gk x).length:Int)>4096) with
  | true=>rw [hm] at hR;exact ⟨trivial,fun _=>hR⟩
  | false =>
   rw [hm] at hR
   exact ⟨Bdv _,fun _=>hR⟩
 | n+1,x,hn,h,hp,hR=>by
  intro _
  show (Bnv Bl3 c x ((n+1:Nat):Int)).sat _
  unfold Bnv
  unfold plRn at hR
  cases hm:decide (((gk x).length:Int)>4096) with
  | true=>rw [hm] at hR;exact ⟨trivial,fun _=>hR⟩
  | false =>
   rw [hm] at hR
   simp only [cond_false] at hR ⊢
   rw [decide_eq_true (show ((n+1:Nat):Int)>0 by omega),cond_true]
   cases hs:Bcc (stG x.1) with
   | true=>rw [hs] at hR;exact ⟨Bdv _,fun _=>hR⟩
   | false =>
    rw [hs] at hR
    simp only [Bool.not_false,cond_true] at hR ⊢
    have hk:=of_decide_eq_false hm
    have hy:Bl3 x=some (tkF (ctG x.1) (gs x)):=by
     unfold Bl3
     rw [show C57 x=true by
      unfold C57 C1e Bn8
      simp only [Bool.and_eq_true,decide_eq_true_eq]
      exact ⟨⟨⟨Bdo.2 h,by omega⟩,hp⟩,by omega⟩]
     rfl
    cases ht:tkF (ctG x.1) (gs x) with
    | inr e=>rw [ht] at hy hR;rw [Brw hy];exact ⟨trivial,fun _=>hR⟩
    | inl s =>
     rw [ht] at hy hR
     rw [Brv hy,show W64 (((n+1:Nat):Int)-1)=(n:Int) by rw [show ((n+1:Nat):Int)-1=(n:Int) by omega];exact Bb4 (by omega) (by omega)]
     exact ⟨Bdv _,Ceg c n (xT x s) (by omega) (Cxi h hp ht) hp hR⟩
theorem Cpr {x:GB} {n:Int} (h:Chm x n=true):OkGM x.1∧(gmP x.1).length≤1000∧(0≤n∧n≤4000):=by
 unfold Chm at h
 simp only [Bool.and_eq_true,decide_eq_true_eq] at h
 exact ⟨Bdo.1 h.1,h.2.1,h.2.2⟩
theorem Dfd:Baw Tryz.prog 141 Ccf (D2h C5c):=Chl Cxg 9 _ Bss Ca6 (fun e=>by cases e <;> exact Nat.le_refl _) _ _ _ _ _ _ (fun g=>Bnv Bl3 (cpl g) (xpl g) (npl g)) (Dfc Bl3) fun g z _ hz=>by
 unfold C5c at hz
 cases ho:Chm (xpl g) (npl g) with
 | false=>rw [ho] at hz;cases hz
 | true =>
  rw [ho] at hz
  cases hz
  obtain ⟨h1,h2,h3⟩:=Cpr ho
  refine ⟨Int.toNat (npl g)+1,fun R hR=>?_⟩
  have:=Ceg (cpl g) (R:=R) (Int.toNat (npl g)) (xpl g) (by omega) h1 h2 (by
   revert hR
   cases plRn (Int.toNat (npl g)) (xpl g) <;> exact id)
  rw [Int.toNat_of_nonneg h3.1] at this
  exact this
end St
end V
end Go.Proofs.YtcfanlgpkefogaaGreat
namespace Go.Proofs.YtcfanlgpkefogaaGreat
open Go.RowKit
namespace V
namespace St
noncomputable def Dbo (Y:YP):Ctx:=Brf Tryz.prog plTk D63 [((141,0),D2h Y)] []
theorem Cxj:CtxOk (Dbo C5c):=Bfj Bar puTk Cee (Bbg (Bc8 (by kernel_rfl)) (Bbg (Bc8 (by kernel_rfl)) (Bbg (Bc8 (by kernel_rfl)) (Bbg (Blf (ds:=[Ccf]) (by kernel_rfl) ⟨Bhm (k:=0) (by kernel_rfl) rfl Dfd,trivial⟩) (Bbg (Bc8 (by kernel_rfl)) (Bbg (Bc8 (by kernel_rfl)) (Bbg (Bc8 (by kernel_rfl)) (Bbg (Bc8 (by kernel_rfl)) (Bbg (Bc8 (by kernel_rfl)) (Bbg (Bc8 (by kernel_rfl)) (Bbg (Bc8 (by kernel_rfl)) (Bbg (Bc8 (by kernel_rfl)) (Bbg (Bc8 (by kernel_rfl)) (Bbg (Bc8 (by kernel_rfl)) (Bgg))))))))))))))) (fun p hp=>nomatch hp)
def Dbp (x:GB):TkR:=(stG x.1,gk x,0,())
def Dbq (y:Option (GB⊕Int)):TTR:=thY y zGB (fun e=>bif e != 0 then lfT2 (Bfz e) else .fail) fun x=>lfT2 (Dbp x)
where lfT2 (r:TkR):TTR:=.leaf r
noncomputable def Cxk (Y:YP) (g:TCT cGr) (s:TCT cSt) (n:Int):TTR:=szT g.1 (bif Be0 g s != 0 then .leaf (Bfz (Be0 g s)) else bif decide (n<0) then .leaf (Bfz 3) else bif decide (n>4000) then .leaf (Bfz 3) else szT g.1 (neT (msT s) (acT (msT s) 48 (neT (osT s) (acT (osT s) 1 (.need (Bij [lkR 0]) (Dbq (Y (gT g s) n))))))))
theorem Cxl (Y:YP) (x:TCTs [cGr,cSt,cI]):Bcr (Dbo Y) 9 (.fn 21) (Bdd [cGr,cSt,cI] x) Bbz 0 (Bh7 Tryz.prog [cSt,.sl cKn,cI])=Cxk Y x.1 x.2.1 x.2.2.1:=by kernel_rfl
theorem Cxm {g:TCT cGr} {s:TCT cSt} {n:Int} (hs:(g.1.1.size:Int)≤Bb2 .i64) (h:StaOk g s) (hn:0≤n∧n≤4000):Chm (gT g s) n=true:=by
 have a:=Ce6 hs h
 have b:=C58 a
 unfold Chm
 simp only [Bool.and_eq_true,decide_eq_true_eq]
 exact ⟨Bdo.2 b.1,b.2.2,hn⟩
def Chn:GB⊕Int→TkR
 | .inl x=>Dbp x
 | .inr e=>Bfz e
def PlayV (g:TCT cGr) (s:TCT cSt) (n:Int):TkR:=bif Be0 g s != 0 then Bfz (Be0 g s) else bif decide (n<0)||decide (n>4000) then Bfz 3 else Chn (plRn (Int.toNat n) (gT g s))
theorem plRn_ne:∀ (n:Nat) (x:GB) (e:Int),plRn n x=.inr e→e≠0
 | 0,x,e,h=>by
  unfold plRn at h
  cases hm:decide (((gk x).length:Int)>4096) with
  | true=>rw [hm] at h;cases h;decide
  | false=>rw [hm] at h;cases h
 | n+1,x,e,h=>by
  unfold plRn at h
  cases hm:decide (((gk x).length:Int)>4096) with
  | true=>rw [hm] at h;cases h;decide
  | false =>
   rw [hm] at h
   cases hs:Bcc (stG x.1) with
   | true=>rw [hs] at h;cases h
   | false =>
    rw [hs] at h
    simp only [cond_false,Bool.not_false,cond_true] at h
    cases ht:tkF (ctG x.1) (gs x) with
    | inr e'=>rw [ht] at h;cases h;exact Cpe ht
    | inl s=>rw [ht] at h;exact plRn_ne n _ e h
abbrev Cxn:PureT:=Bbh [cGr,cSt,cI] [cSt,.sl cKn,cI] (fun x=>decide ((x.1.1.1.size:Int)≤Bb2 .i64)) (fun x=>Buw (PlayV x.1 x.2.1 x.2.2.1))
theorem Cxo {g:TCT cGr} {s:TCT cSt} {n:Int} (hs:(g.1.1.size:Int)≤Bb2 .i64):(Cxk C5c g s n).sat (fun y=>y=Buw (PlayV g s n)):=by
 unfold Cxk PlayV
 rw [Bce hs,Bce hs]
 cases h1:Be0 g s != 0 with
 | true=>exact rfl
 | false =>
  have h:=C1i (bne_eq_false_iff_eq.1 h1)
  have hn1:=h.n1
  have hn8:=h.n8
  have hm:=h.m
  have ho:=h.o
  simp only [cond_false]
  cases h2:decide (n<0) with
  | true=>exact rfl
  | false =>
   cases h3:decide (n>4000) with
   | true=>exact rfl
   | false =>
    have a2:=of_decide_eq_false h2
    have a3:=of_decide_eq_false h3
    simp only [cond_false,Bool.or_false]
    rw [Bqs (by omega),Bqt (by omega) (by decide),Bqs (by omega),Bqt (by omega) (by decide)]
    refine ⟨Bdv _,?_⟩
    have hy:C5c (gT g s) n=some (plRn (Int.toNat n) (gT g s)):=by
     unfold C5c
     rw [Cxm hs h ⟨by omega,by omega⟩];rfl
    unfold Dbq
    cases hf:plRn (Int.toNat n) (gT g s) with
    | inl x=>rw [hf] at hy;rw [Brv hy];exact rfl
    | inr e=>rw [hf] at hy;rw [Brw hy,show (e != 0)=true from bne_iff_ne.2 (plRn_ne _ _ _ hf)];exact rfl
theorem Cxp:Bai Tryz.prog 21 Cxn:=Bbj Cxj 9 (fun x=>Cxk C5c x.1 x.2.1 x.2.2.1) (Cxl C5c) fun _ hok _=>Cxo (of_decide_eq_true hok)
end St
end V
end Go.Proofs.YtcfanlgpkefogaaGreat
namespace Go.Proofs.YtcfanlgpkefogaaGreat
open Go.RowKit
namespace V
namespace St
end St
end V
end Go.Proofs.YtcfanlgpkefogaaGreat
namespace Go.Proofs.YtcfanlgpkefogaaGreat
open Go.RowKit
namespace V
namespace St
end St
end V
end Go.Proofs.YtcfanlgpkefogaaGreat
